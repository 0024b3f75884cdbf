/- salt.Stream. -/
import Derived.Test.YtlncnjcbgfeaoaaC4
set_option maxRecDepth 100000
set_option linter.unusedVariables false
namespace Go.Proofs.Ytlncnjcbgfeaoaa
open Go.RowKit
/-- a block; so many of them -/
def blkS (key nonce : List UInt8) (n : Nat) : List UInt8 := outC (rounds (initC key nonce n) 10) (initC key nonce n) 16
def strS (key nonce : List UInt8) (fr : Nat) : Nat → List UInt8
  | 0 => []
  | k + 1 => strS key nonce fr k ++ blkS key nonce ((fr + k) % 4294967296)
theorem strS_len (key nonce : List UInt8) (fr k : Nat) : (strS key nonce fr k).length = 64 * k := by
  induction k with
  | zero => rfl
  | succ k ih => rw [strS, List.length_append, ih]; show 64 * k + (outC _ _ 16).length = _; rw [outC_len]; omega
/-- n bytes of the stream, out of the walk's sight -/
structure SM (key nonce : List UInt8) (fr N : Nat) (d : List UInt8) : Prop where
  h : (strS key nonce fr ((N + 63) / 64)).take N = d
  len : d.length = N
theorem SM_ex (key nonce : List UInt8) (fr N : Nat) : ∃ d, SM key nonce fr N d := ⟨_, rfl, by rw [List.length_take, strS_len]; omega⟩
def lenV : Value → Nat
  | .slice _ n _ => n
  | _ => 0
theorem AB.bl {w w' : World} {g n : Nat} {t : TypeId} {vs : List UInt8} (h : AB w g t vs) (hb : Below n w w') (hg : g < n) : AB w' g t vs := by
  unfold AB at h ⊢
  rw [hb.block g hg]; exact h
theorem AB.whole {w : World} {g n : Nat} {t : TypeId} {vs : List UInt8} (h : AB w g t vs) (hl : vs.length = n) (hm : n ≤ 140737488355328) : BS w (some ⟨g, 0, none⟩) n n vs := by
  have := h.from 0 (Nat.zero_le _) (by unfold maxLen; omega)
  rw [List.drop_zero, Nat.sub_zero, hl] at this
  exact this
theorem runB_take {W0 : World} {a : Option Addr} {n c : Nat} {xs : List UInt8} (hx : BS W0 a n c xs) (j : Nat) (hj : j ≤ n) : BS W0 a j c (xs.take j) := by
  have h := RS.head hx j hj
  rw [Nat.mul_one, ← List.map_take] at h; exact h
theorem row_le {a : Option Addr} {X C : Nat} (h : ∀ ad, a = some ad → X ≤ ad.block) (hC : C ≤ X) : ∀ k, a.map (·.block) = some k → C ≤ k := by
  intro k he
  obtain ⟨ad, h1, h2⟩ := Option.map_eq_some_iff.1 he
  have := h ad h1; omega
theorem btr {w w1 w2 : World} (h : Below w.heap.size w w1) (k : Below w1.heap.size w1 w2) : Below w.heap.size w w2 := h.trans (k.mono h.size)
set_option maxHeartbeats 4000000 in
theorem stream_any (w : World) {key nonce d : List UInt8} (hkl : key.length = 32) (hnl : nonce.length = 12) (fr : Nat) (hfr : fr < 4294967296) (N : Nat) (hN : N ≤ 65536) (hD : SM key nonce fr N d) :
    Calls Try.prog 19 #[.agg (key.map B).toArray, .agg (nonce.map B).toArray, .int .u32 (fr : Int), .int .i64 (N : Int)] w fun e w' => ∃ a c, e = .returned (.tuple #[.slice a N c, .int .i64 0]) ∧ OW w' w.heap.size 5 1 a N c (d.map B) ∧ Below w.heap.size w w' := by
  have hz1 : (w.alloc (.cells (key.map B).toArray 22)).heap.size = w.heap.size + 1 := by simp
  have hA := (AB_box w 22 key).al (.cells (nonce.map B).toArray 32)
  have hM := AB_box (w.alloc (.cells (key.map B).toArray 22)) 32 nonce
  have hb : Below w.heap.size w _ := (below_alloc w (.cells (key.map B).toArray 22)).alloc (by simp) (.cells (nonce.map B).toArray 32)
  rw [hz1] at hM
  have hi32 := Lib.hid (show (Try.prog.info? 22).map (·.size) = some (key.map B).length by rw [List.length_map, hkl]; kernel_rfl)
  have hi12 := Lib.hid (show (Try.prog.info? 32).map (·.size) = some (nonce.map B).length by rw [List.length_map, hnl]; kernel_rfl)
  clear hz1
  go_enter Try.func19, Try.ntmps19
  go_upto_region 1 with (fail)
  generalize (World.alloc _ _) = W1 at *
  have l0 := hA.lt
  have l1 := hM.lt
  have hbs := hb.size
  go_wp2
  go_loopw [10, 11] (fun s10 s11 wr => ∃ (k : Nat) (a : Option Addr) (c : Nat), 64 * k < N + 64 ∧ s11 = .int .u32 (((fr + k) % 4294967296 : Nat) : Int) ∧ s10 = .slice a (64 * k) c ∧ OW wr W1.heap.size 5 1 a (64 * k) c ((strS key nonce fr k).map B) ∧ Below W1.heap.size W1 wr) (fun s10 _ _ => 70000 - lenV s10)
  case atStart => exact ⟨0, none, 0, by omega, by rw [Nat.add_zero, Nat.mod_eq_of_lt hfr], rfl, OW_nil _ _ _ _, Below.refl _ _⟩
  case round =>
    obtain ⟨k, a, c, hk, rfl, rfl, ho, hB⟩ := hrel
    by_cases hlt : 64 * k < N
    · have hsz := hB.size
      have rA := (hA.bl hB l0).rng
      have rM := (hM.bl hB l1).rng
      obtain ⟨b, hbk⟩ := ST_ex key nonce ((fr + k) % 4294967296)
      obtain ⟨q, hq⟩ : ∃ q, (fr + k) % 4294967296 = q := ⟨_, rfl⟩
      rw [hq] at hbk ⊢
      have hq32 : q < 4294967296 := by omega
      have hbl := hbk.len
      have hstep : EB (strS key nonce fr (k + 1)) (strS key nonce fr k ++ b) := ⟨by rw [strS, hq]; show _ ++ outC _ _ 16 = _; rw [hbk.h]⟩
      have hnq : ((q : Int) + 1) % 4294967296 = (((fr + (k + 1)) % 4294967296 : Nat) : Int) := by omega
      have Hbk := Lib.hid hbk
      have Ho := Lib.hid ho
      have HB := Lib.hid hB
      obtain ⟨V, hV⟩ : ∃ V, strS key nonce fr k = V := ⟨_, rfl⟩
      rw [hV] at Ho hstep
      have Hnq := Lib.hid hnq
      clear hq hbk ho hB hV hnq
      go_upto_region 10 with (first
        | (refine wpList_load_mid rfl _ _ rfl _ _ rfl (key.map B) _ rA Try.underlying22 rfl hi32.out ?_)
        | (refine wpList_load_mid rfl _ _ rfl _ _ rfl (nonce.map B) _ rM Try.underlying32 rfl hi12.out ?_)
        | (go_at_call 34; refine (stir_any _ hkl hnl q hq32 Hbk.out).mono ?_; rintro e w2 ⟨rfl, B2⟩)
        | (refine L_storeAB rfl _ _ _ rfl rfl rfl (show AB (w2.alloc _) w2.heap.size 63 (List.replicate 64 0) from heap_alloc_new w2 _) i64B (by simp) hbl ?_; intro w3 hA3 hg3))
      have z2 := B2.size
      have b3 : Below wr.heap.size wr w3 := (B2.alloc z2 _).grown hg3 (by simp; omega) (fun k hk => by cases hk; exact z2)
      have own3 := Ho.out.below b3 (Nat.le_refl _)
      have hbs3 := hA3.whole hbl (by omega)
      have hb3 := btr HB.out b3
      have z3 := hb3.size
      clear hA3 hg3 B2 b3
      go_upto_region 8 with (at_builtin; refine L_append tB own3 hbs3 _ _ rfl rfl rfl rfl (by omega) (by unfold maxLen; omega) (by omega) ?_; intro a4 c4 w4 o4 g4)
      have hb4 := hb3.grown g4 z3 (row_le (fun ad ha => (own3.base_le ha).1) (Nat.le_refl _))
      have o4' : OW w4 W1.heap.size 5 1 a4 (64 * (k + 1)) c4 ((strS key nonce fr (k + 1)).map B) := by
        rw [hstep.h, List.map_append]; exact o4
      have O4 := Lib.hid o4'
      have B4 := Lib.hid hb4
      clear o4 o4' g4 hb4 own3 hbs3 hb3 hstep
      go_wp2
      go_roundw
      case rel => exact ⟨k + 1, a4, c4, by omega, by rw [← Hnq.out], rfl, O4.out, B4.out⟩
      case measure => simp [lenV]; omega
    · have hkN : (N + 63) / 64 = k := by omega
      have hbs2 : BS wr a (64 * k) c (strS key nonce fr k) := ho.rs
      have hres := hD.h
      rw [hkN] at hres
      obtain ⟨V, hV⟩ : ∃ V, strS key nonce fr k = V := ⟨_, rfl⟩
      rw [hV] at hbs2 hres
      have HB := Lib.hid hB
      have Hres := Lib.hid hres
      clear ho hB hres hkN hV
      go_wp2_with (first
        | (refine LB_slice_h tB hbs2 N _ _ rfl rfl _ _ rfl rfl rfl (by omega) ?_; intro hb6)
        | (go_at_call 35; refine (clone_any _ hb6 (by omega)).mono ?_; rintro e w5 ⟨a5, c5, rfl, o5, B5⟩))
      have hr5 : OW w5 w.heap.size 5 1 a5 N c5 (d.map B) := by have := o5.mono (Nat.le_trans hbs HB.out.size); rw [Hres.out] at this; exact this
      have Hr5 := Lib.hid hr5
      clear o5 hr5
      go_ret2
      exact ⟨a5, c5, rfl, Hr5.out, hb.trans ((btr HB.out B5).mono hb.size)⟩
theorem stream_neg (w : World) (key nonce : List UInt8) (v : Value) (N : Int) (hN : N < 0) :
    Calls Try.prog 19 #[.agg (key.map B).toArray, .agg (nonce.map B).toArray, v, .int .i64 N] w fun e w' => e = .returned (.tuple #[.slice none 0 0, .int .i64 1]) ∧ Below w.heap.size w w' := by
  have hb : Below w.heap.size w _ := (below_alloc w (.cells (key.map B).toArray 22)).alloc (by simp) (.cells (nonce.map B).toArray 32)
  go_enter Try.func19, Try.ntmps19
  go_wp2
  go_ret2
  exact ⟨rfl, hb⟩
theorem stream_big (w : World) (key nonce : List UInt8) (v : Value) (N : Int) (hN : 65536 < N) :
    Calls Try.prog 19 #[.agg (key.map B).toArray, .agg (nonce.map B).toArray, v, .int .i64 N] w fun e w' => e = .returned (.tuple #[.slice none 0 0, .int .i64 3]) ∧ Below w.heap.size w w' := by
  have hb : Below w.heap.size w _ := (below_alloc w (.cells (key.map B).toArray 22)).alloc (by simp) (.cells (nonce.map B).toArray 32)
  go_enter Try.func19, Try.ntmps19
  go_wp2
  go_ret2
  exact ⟨rfl, hb⟩
end Go.Proofs.Ytlncnjcbgfeaoaa
