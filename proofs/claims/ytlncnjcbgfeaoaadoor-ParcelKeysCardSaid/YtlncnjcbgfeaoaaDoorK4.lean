/- parcel.Turn, parcel.First. -/
import Derived.Test.YtlncnjcbgfeaoaaDoorK3
import Derived.Test.YtlncnjcbgfeaoaaDoorK6
set_option maxRecDepth 100000
set_option linter.unusedVariables false
namespace Go.Proofs.YtlncnjcbgfeaoaaDoor
open Go.RowKit Go.Joins
theorem AB.mid {w : World} {g : Nat} {t : TypeId} {vs : List UInt8} (h : AB w g t vs) (o : Nat) : w.rangeAt g o ((vs.drop o).map B) := fun j v hv => by
  rw [List.getElem?_map, List.getElem?_drop] at hv
  obtain ⟨x, hx, rfl⟩ := Option.map_eq_some_iff.1 hv
  exact h.cell _ x hx
theorem AB.there {w : World} {g : Nat} {t : TypeId} {vs : List UInt8} (h : AB w g t vs) (o n : Nat) (hn : o + n ≤ vs.length) : w.there g o n := fun j hj => by
  refine ⟨?_, h.fr _⟩
  rw [h.cell (o + j) (vs[o + j]'(by omega)) (List.getElem?_eq_getElem _)]; rfl
theorem AB.setCells {g : Nat} {t : TypeId} : ∀ (d vs : List UInt8) (o : Nat) (w : World), AB w g t vs → o + d.length ≤ vs.length →
    AB (w.setCells g o (d.map B)) g t (vs.take o ++ d ++ vs.drop (o + d.length)) ∧ w.grownBy (w.setCells g o (d.map B)) (some g) := by
  intro d
  induction d with
  | nil => intro vs o w h hl; simp [World.setCells]; exact ⟨h, World.grownBy.refl w _⟩
  | cons x d ih =>
    intro vs o w h hl
    rw [List.length_cons] at hl
    obtain ⟨h1, h2⟩ := ih (vs.set o x) (o + 1) _ (h.set_ o x) (by rw [List.length_set]; omega)
    refine ⟨?_, grown_trans (grownBy_setCell w ⟨g, o, none⟩ (B x)) h2⟩
    have e : (vs.set o x).take (o + 1) ++ d ++ (vs.set o x).drop (o + 1 + d.length) = vs.take o ++ x :: d ++ vs.drop (o + (x :: d).length) := by
      rw [List.take_add_one, List.take_set_of_le (Nat.le_refl _), List.getElem?_set_self (by omega), List.drop_set_of_lt (by omega), List.length_cons, show o + 1 + d.length = o + (d.length + 1) by omega]
      simp
    rw [e] at h1
    exact h1
/-- x stored into the middle of an array or struct of bytes of the call's own -/
theorem L_storeMid {w : World} {ops : Array Oper} {rest : List Oper} {o : Oper} {f : Act} {Q : Exit → Act → World → Prop} (hgd : o.guard = none) (t : TypeId) (x y : Operand) (ho : o.op = .store t x y)
    {g i n : Nat} {t0 : TypeId} {old d : List UInt8} (hx : f.eval x = .pointer (some ⟨g, i, none⟩)) (hy : f.eval y = .agg (d.map B).toArray) (hA : AB w g t0 old) (hi : (Tryd.prog.info? t).map (·.size) = some n) (hl : i + n ≤ old.length) (hl2 : d.length = n)
    (h : ∀ w', AB w' g t0 (old.take i ++ d ++ old.drop (i + n)) → w.grownBy w' (some g) → wpList Tryd.prog ops Q rest (f.put o.dst undef) w') : wpList Tryd.prog ops Q (o :: rest) f w := by
  refine wpList_store_mid hgd t x y ho g i _ hx hy (hA.there i _ (by rw [List.size_toArray, List.length_map]; omega)) (by rw [List.size_toArray, List.length_map, hl2]; exact hi) (by rw [Array.all_eq_true_iff_forall_mem]; intro v hv; exact one_B _ v (by simpa using hv)) ?_
  obtain ⟨h1, h2⟩ := AB.setCells d old i w hA (by omega)
  rw [hl2] at h1
  exact h _ h1 h2
set_option maxHeartbeats 4000000 in
theorem turn_any (w : World) {k sec a b c : List UInt8} (hkl : k.length = 76) (hsl : sec.length = 32) (hD : KS sec a b c) (hK : KT w) :
    Calls Tryd.prog 17 #[.agg (k.map B).toArray, .agg (sec.map B).toArray] w fun e w' => e = .returned (.agg ((a ++ b ++ k.drop 44).map B).toArray) ∧ Below w.heap.size w w' := by
  have hz1 : (w.alloc (.cells (k.map B).toArray 35)).heap.size = w.heap.size + 1 := by simp
  have hz2 : ((w.alloc (.cells (k.map B).toArray 35)).alloc (.cells (sec.map B).toArray 22)).heap.size = w.heap.size + 1 + 1 := by simp
  have hZ := AB_zeros35 ((w.alloc (.cells (k.map B).toArray 35)).alloc (.cells (sec.map B).toArray 22)) rfl
  have hS := (AB_box (w.alloc (.cells (k.map B).toArray 35)) 22 sec).al (.cells Tryd.zeroCells35 35)
  have hA := ((AB_box w 35 k).al (.cells (sec.map B).toArray 22)).al (.cells Tryd.zeroCells35 35)
  have hb : Below w.heap.size w _ := ((below_alloc w (.cells (k.map B).toArray 35)).alloc (by simp) (.cells (sec.map B).toArray 22)).alloc (by simp; omega) (.cells Tryd.zeroCells35 35)
  rw [hz2] at hZ
  rw [hz1] at hS
  have HK1 := Lib.hid (hK.below hb (Nat.le_refl _))
  have hm : (k.drop 44).length = 32 := by rw [List.length_drop, hkl]
  have hDl := hD.len
  have hres : (a ++ b ++ c).take 44 ++ k.drop 44 ++ (a ++ b ++ c).drop 76 = a ++ b ++ k.drop 44 := by
    have hab : (a ++ b).length = 44 := by rw [List.length_append, hD.ha.len, hD.hb.len]
    have hnil : (a ++ b ++ c).drop 76 = [] := List.drop_eq_nil_of_le (by omega)
    rw [List.take_left' hab, hnil, List.append_nil]
  obtain ⟨D, hDe⟩ : ∃ D, a ++ b ++ c = D := ⟨_, rfl⟩
  obtain ⟨M, hM⟩ : ∃ M, k.drop 44 = M := ⟨_, rfl⟩
  obtain ⟨R, hR⟩ : ∃ R, a ++ b ++ M = R := ⟨_, rfl⟩
  have hmid := hA.mid 44
  rw [hDe, hM, hR] at hres
  rw [hDe] at hDl
  rw [hM] at hm hmid ⊢
  rw [hR]
  have hRl : R.length = 76 := by rw [← hR, List.length_append, List.length_append, hD.ha.len, hD.hb.len, hm]
  have HDe := Lib.hid hDe
  have Hres := Lib.hid hres
  have hj32 := Lib.hid (len32 hsl)
  have hm32 := Lib.hid (len32 hm)
  have hR76 := Lib.hid (show (Tryd.prog.info? 35).map (·.size) = some (R.map B).length by rw [List.length_map, hRl]; exact i76)
  have Hi2 := Lib.hid (show (Tryd.prog.info? 35).map (·.size) = some (R.map B).toArray.size by rw [List.size_toArray, List.length_map, hRl]; exact i76)
  clear hK hz1 hz2 hDe hM hR hres
  go_enter Tryd.func17, Tryd.ntmps17
  go_upto_region 1 with (fail)
  generalize (World.alloc _ _) = W1 at *
  have hr := hS.range
  go_upto_region 2 with (first
    | (refine wpList_load_mid rfl _ _ rfl _ _ rfl (sec.map B) _ hr Tryd.underlying22 rfl hj32.out ?_)
    | (go_at_call 14; refine (draw_any _ hsl hD HK1.out).mono ?_; rw [HDe.out]; rintro e w2 ⟨rfl, B2⟩)
    | (refine L_storeA rfl _ _ _ rfl rfl rfl (AB_zeros35 _ rfl) i76 (by simp) hDl ?_; intro w3 hA3 hg3))
  have hs2 := B2.size
  have b3 : Below W1.heap.size W1 w3 := (B2.alloc hs2 _).grown hg3 (by simp; omega) (fun k hk => by cases hk; exact hs2)
  have hmid3 := range_bel hmid b3 hA.lt
  have hZ3 := hZ.bel b3 hZ.lt
  have hg2 := hZ.lt
  go_wp2_with (first
    | (refine wpList_load_mid rfl _ _ rfl _ _ rfl (M.map B) _ hmid3 Tryd.underlying22 rfl hm32.out ?_)
    | (refine L_storeMid rfl _ _ _ rfl rfl rfl hA3 i32 (by omega) hm ?_; rw [Hres.out]; intro w4 hA4 hg4; have hZ4 := hZ3.grown hg4 (by simp; omega); have hr4 := hA4.range)
    | (refine wpList_load_mid rfl _ _ rfl _ _ rfl (R.map B) _ hr4 Tryd.underlying35 rfl hR76.out ?_)
    | (refine L_storeA rfl _ _ _ rfl rfl rfl hZ4 i76 (by simp) hRl ?_; intro w5 hA5 hg5))
  refine bodyPost_ret_by (results_cell_row rfl _ _ _ _ _ _ _ rfl hA5 Tryd.underlying35 rfl Hi2.out) rfl ⟨rfl, ?_⟩
  have hbw := hb.trans (b3.mono hb.size)
  have hs3 := b3.size
  have hb4 := hbw.grown hg4 hbw.size (fun k hk => by cases hk; have := hb.size; omega)
  exact hb4.grown hg5 hb4.size (fun k hk => by cases hk; omega)
end Go.Proofs.YtlncnjcbgfeaoaaDoor
