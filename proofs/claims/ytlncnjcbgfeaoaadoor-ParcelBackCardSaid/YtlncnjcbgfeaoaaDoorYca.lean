/- texts E8 E9 EA EE EF EG in one. -/
import Derived.Test.YtlncnjcbgfeaoaaDoorYay
import Derived.Test.YtlncnjcbgfeaoaaDoorYbd
import Derived.Test.YtlncnjcbgfeaoaaDoorYbz
import Derived.Test.YtlncnjcbgfeaoaaDoorYbb
import Derived.Test.YtlncnjcbgfeaoaaDoorYbg
import Derived.Test.YtlncnjcbgfeaoaaDoorYaj
import Derived.Test.YtlncnjcbgfeaoaaDoorYbq
import Derived.Deep.RegionHeld3
import Derived.StillTailTactics
import Derived.Deep.QuietTactic
import Derived.BigQuiet

/- parcel.bare. -/
set_option maxRecDepth 100000
set_option linter.unusedVariables false
namespace Go.Proofs.YtlncnjcbgfeaoaaDoor
open Go.RowKit
theorem HB.set2 {w : World} {b : Nat} {l : Bool} {lv : Int} {ph : Bool} {t f : Value} (h : HB w b l lv ph t f) (v : Bool) : HB (w.setCell ⟨b, 2, none⟩ (.bool v)) b l lv v t f := by
  unfold HB at h ⊢; simp [World.setCell, Array.getElem?_modify, h]
theorem ReadSPost.form1 {w w' : World} {xs : List UInt8} {e : Ending} (h : ReadSPost w xs e w') : ∃ ta tn tc fa fn fc, e = .returned (.tuple #[.agg #[.bool (readS xs).2.1.long, .int .i64 (readS xs).2.1.level, .bool false, .slice ta tn tc, .slice fa fn fc], .int .i64 ((readS xs).2.2.1 : Nat), .int .i64 ((readS xs).2.2.2 : Nat), .int .i64 (readS xs).1]) ∧
    BS w' ta tn tc (readS xs).2.1.to ∧ BS w' fa fn fc (readS xs).2.1.frm ∧ Below w.heap.size w w' := by
  obtain ⟨l, lv, a1, n1, c1, a2, n2, c2, he, ⟨ta, tn, tc, fa, fn, fc, h1, h2, h3⟩, hb⟩ := h
  exact ⟨ta, tn, tc, fa, fn, fc, by rw [he, h1], h2, h3, hb⟩
theorem Readq (w : World) {a : Option Addr} {n c : Nat} (xs : List UInt8) (hx : BS w a n c xs) (hk : KG w) (hn : n ≤ 140737488355328) {e1 : Int} {hd : Hd} {pa pe : Nat} (hR : readS xs = (e1, hd, pa, pe)) :
    Calls Tryd.prog 52 #[.slice a n c] w fun e w' => ∃ ta tn tc fa fn fc, e = .returned (.tuple #[.agg #[.bool hd.long, .int .i64 hd.level, .bool false, .slice ta tn tc, .slice fa fn fc], .int .i64 (pa : Int), .int .i64 (pe : Int), .int .i64 e1]) ∧
    BS w' ta tn tc hd.to ∧ BS w' fa fn fc hd.frm ∧ Below w.heap.size w w' := by
  refine (Read_any w xs hx hk hn).mono fun e w' h => ?_
  have h2 := h.form1
  rw [hR] at h2; exact h2
def bitsN (x : Nat) : Nat := if x < 128 then 31 else 15
theorem bits_any (w : World) (x : Nat) (hx : x < 256) : Calls Tryd.prog 37 #[.int .u8 (x : Int)] w fun e w' => e = .returned (.int .u8 (bitsN x : Int)) ∧ w = w' := by
  unfold bitsN
  by_cases h : x < 128
  · rw [if_pos h]; exact bits_lo w x h
  · rw [if_neg h]; exact bits_hi w x hx (by omega)
/-- a packet without its mask -/
structure BAR (key p : List UInt8) (hd : Hd) (a e : Nat) (m q : List UInt8) (k : Nat) : Prop where
  rd : readS p = (0, hd, a, e)
  mm : MSK key (((p.take e).drop (a + 4)).take 16) m
  hk : (fstS (p.getD 0 0) (m.getD 0 0)).toNat % 4 + 1 = k
  hq : unS (p.take e) m a k = q
theorem BAR_ex {key p : List UInt8} {hd : Hd} {a e : Nat} (h : readS p = (0, hd, a, e)) : ∃ m q k, BAR key p hd a e m q k := by
  obtain ⟨m, hm⟩ := MSK_ex key (((p.take e).drop (a + 4)).take 16)
  exact ⟨m, _, _, h, hm, rfl, rfl⟩
theorem BAR.le {key p m q : List UInt8} {hd : Hd} {a e k : Nat} (h : BAR key p hd a e m q k) : 1 ≤ k ∧ k ≤ 4 ∧ a + 20 ≤ e ∧ e ≤ p.length ∧ q.length = e ∧ ∃ b r, p = b :: r ∧ hd.long = decide (128 ≤ b.toNat) := by
  obtain ⟨h1, h2, h3⟩ := readS_ok h.rd
  refine ⟨by have := h.hk; omega, by have := h.hk; omega, h1, h2, ?_, h3⟩
  rw [← h.hq, unS, unJ_len, List.length_set, List.length_take]; omega
theorem fst_and (b m : UInt8) : (fstS b m).toNat = b.toNat ^^^ (m.toNat &&& bitsN b.toNat) := by
  rw [fst_nat]; unfold bitsN
  by_cases h : b.toNat < 128
  · rw [if_pos h, if_pos h, and_31]
  · rw [if_neg h, if_neg h, and_15]
theorem bitsN_lt (x : Nat) : bitsN x < 256 := by unfold bitsN; split <;> decide
theorem and_4 : ∀ x, x < 256 → (x &&& 4 = 0 ↔ x / 4 % 2 = 0) := by decide +kernel
theorem and_3 (x : Nat) : x &&& 3 = x % 4 := Nat.and_two_pow_sub_one_eq_mod x 2
theorem BS.setBool {w : World} {a : Option Addr} {n c : Nat} {xs : List UInt8} (h : BS w a n c xs) {b i : Nat} {p : Bool} (hc : w.cell? ⟨b, i, none⟩ = some (.bool p)) (v : Value) : BS (w.setCell ⟨b, i, none⟩ v) a n c xs := by
  refine ⟨h.1, h.2.1, h.2.2.1, h.2.2.2.1, h.2.2.2.2.1, fun ad ha => ⟨(h.2.2.2.2.2 ad ha).1, fun j u hu => ?_⟩⟩
  have hcell := (h.2.2.2.2.2 ad ha).2 j u hu
  rw [World.cell?_setCell_other w _ _ v (fun e => ?_)]
  · exact hcell
  · rw [← e, hc] at hcell
    rw [List.getElem?_map] at hu
    obtain ⟨x, _, rfl⟩ := Option.map_eq_some_iff.1 hu
    cases hcell
theorem OW.sets5 {w : World} {base : Nat} {e : TypeId} {z : Nat} {a : Option Addr} {n c : Nat} {vs : List Value} (h : OW w base e z a n c vs) {b : Nat} (hn : ∀ x, a = some x → x.block ≠ b) (v0 v1 v2 v3 v4 : Value) :
    OW (((((w.setCell ⟨b, 0, none⟩ v0).setCell ⟨b, 1, none⟩ v1).setCell ⟨b, 2, none⟩ v2).setCell ⟨b, 3, none⟩ v3).setCell ⟨b, 4, none⟩ v4) base e z a n c vs :=
  ((((h.setOther hn v0).setOther hn v1).setOther hn v2).setOther hn v3).setOther hn v4
/-- the phase of what is read -/
def phS (long : Bool) (q : List UInt8) : Bool := !long && decide ((q.getD 0 0).toNat / 4 % 2 = 1)
set_option maxHeartbeats 4000000 in
theorem bare_ok (w : World) {a : Option Addr} {n c t e k : Nat} {key p m q : List UInt8} {hd : Hd} (hkl : key.length = 32) (hp : BS w a n c p) (hK : KG w) (hn : n ≤ 140737488355328) (hD : BAR key p hd t e m q k) :
    Calls Tryd.prog 32 #[.slice a n c, .agg (key.map B).toArray] w fun x w' => ∃ a' c' ta tn tc fa fn fc, x = .returned (.tuple #[.slice a' e c', .agg #[.bool hd.long, .int .i64 hd.level, .bool (phS hd.long q), .slice ta tn tc, .slice fa fn fc], .int .i64 (t : Int), .int .i64 (k : Int), .int .i64 0]) ∧
      OW w' w.heap.size 5 1 a' e c' (q.map B) ∧ BS w' ta tn tc hd.to ∧ BS w' fa fn fc hd.frm ∧ Below w.heap.size w w' := by
  obtain ⟨hk1, hk4, hte, hen, hql, b0, r0, hp0, hlong⟩ := hD.le
  obtain ⟨L, lv, tt, ff⟩ := hd
  dsimp only at hlong ⊢
  have Hlong := Lib.hid hlong
  have Hp0 := Lib.hid hp0
  clear hlong hp0
  have hpl := BS.len hp
  have hz1 : (w.alloc (.cells (key.map B).toArray 22)).heap.size = w.heap.size + 1 := by simp
  have hA := (AB_box w 22 key).al hobj
  have hO : HB ((w.alloc (.cells (key.map B).toArray 22)).alloc hobj) (w.heap.size + 1) false 0 false (.slice none 0 0) (.slice none 0 0) := by
    have := HB_new (w.alloc (.cells (key.map B).toArray 22)); rw [hz1] at this; exact this
  have hbl : Below w.heap.size w _ := (below_alloc w (.cells (key.map B).toArray 22)).alloc (by simp) hobj
  have hp1 := (RS.alloc hp (.cells (key.map B).toArray 22)).alloc hobj
  have hK1 := (hK.below (below_alloc w (.cells (key.map B).toArray 22))).below (below_alloc _ hobj)
  have hs32 := Lib.hid (show (Tryd.prog.info? 22).map (·.size) = some (key.map B).length by rw [List.length_map, hkl]; kernel_rfl)
  have HD := Lib.hid hD
  have Hrd := Lib.hid hD.rd
  clear hz1 hK hD
  go_enter Tryd.func32, Tryd.ntmps32
  go_upto_region 1 with (fail)
  obtain ⟨W1, hW1⟩ : ∃ W1, (w.alloc (.cells (key.map B).toArray 22)).alloc hobj = W1 := ⟨_, rfl⟩
  have hW1' := hW1
  unfold hobj at hW1'
  rw [hW1'] 
  rw [hW1] at hA hO hbl hp1 hK1
  clear hW1 hW1'
  have l0 := hA.lt
  have l1 := hO.lt
  have hbs := hbl.size
  have Hrq := Lib.hid (Readq W1 p hp1 hK1 hn Hrd.out)
  have HA := Lib.hid hA
  have HO := Lib.hid hO
  have HBb := Lib.hid hbl
  have HP := Lib.hid hp1
  clear hA hO hbl hp1 hK1 hp
  go_upto_region 2 with (go_at_call 52; refine Hrq.out.mono ?_; rintro x w2 ⟨ta, tn, tc, fa, fn, fc, rfl, hT2, hF2, B2⟩)
  have b2s := B2.size
  have lw1 : w.heap.size + 1 < w2.heap.size := by omega
  have hH3 : HB (w2.alloc (.cells #[.bool L, .int .i64 lv, .bool false, .slice ta tn tc, .slice fa fn fc] 43)) w2.heap.size L lv false (.slice ta tn tc) (.slice fa fn fc) := heap_alloc_new w2 _
  have b3 := B2.alloc b2s (.cells #[.bool L, .int .i64 lv, .bool false, .slice ta tn tc, .slice fa fn fc] 43)
  have hT3 := RS.alloc hT2 (.cells #[.bool L, .int .i64 lv, .bool false, .slice ta tn tc, .slice fa fn fc] 43)
  have hF3 := RS.alloc hF2 (.cells #[.bool L, .int .i64 lv, .bool false, .slice ta tn tc, .slice fa fn fc] 43)
  generalize (World.alloc _ _) = W3 at *
  obtain ⟨h3, hh3⟩ : ∃ h3, w2.heap.size = h3 := ⟨_, rfl⟩
  rw [hh3] at hH3 b2s lw1 ⊢
  have lh3 := hH3.lt
  have hp3 := RS.below HP.out b3 (Nat.le_refl _)
  obtain ⟨hcut, hsl⟩ := runB_h hp3 e (by omega)
  have Hcl := Lib.hid (clone_any W3 hcut (by omega))
  have HA3 := Lib.hid (HA.out.bl b3 l0)
  have HO3 := Lib.hid (HO.out.grown (grown_of_below (row := none) b3) (by simp))
  have HB3 := Lib.hid (HBb.out.trans (b3.mono hbs))
  have HH3 := Lib.hid hH3
  have HT3 := Lib.hid hT3
  have HF3 := Lib.hid hF3
  clear hT2 hF2 B2 b3 hT3 hF3 hH3 hp3 hcut Hrq HA HO HBb HP hh3
  go_upto_region 5 with (go_at_call 38; refine Hcl.out.mono ?_; rintro x w4 ⟨a4, c4, rfl, o4, B4⟩)
  have b4s := B4.size
  have hA4 := HA3.out.bl B4 (by have := HA3.out.lt; exact this)
  have rA4 := hA4.rng
  have lA4 := hA4.lt
  have hu32 := Tryd.underlying22
  have hs32' := hs32.out
  have Hmk := Lib.hid (pmask_any w4 hkl o4.rs hte HD.out.mm)
  have hml := HD.out.mm.len
  have HO4 := Lib.hid o4
  have HB4 := Lib.hid B4
  clear hA4 o4 B4 Hcl HA3
  go_upto_region 6 with (first
    | (refine wpList_load_mid rfl _ _ rfl _ _ rfl (key.map B) _ rA4 hu32 rfl hs32' ?_)
    | (go_at_call 47; refine Hmk.out.mono ?_; rintro x w5 ⟨rfl, B5⟩)
    | (refine L_storeAB rfl _ _ _ rfl rfl rfl (show AB (w5.alloc _) w5.heap.size 84 z5 from heap_alloc_new w5 _) i5 (by simp [z5]) hml ?_; intro w6 hm6 hg6))
  have z5s := B5.size
  have b6 : Below w4.heap.size w4 w6 := (B5.alloc z5s _).grown hg6 (by simp; omega) (fun k hk => by cases hk; exact z5s)
  obtain ⟨gm, hgm⟩ : ∃ gm, w5.heap.size = gm := ⟨_, rfl⟩
  rw [hgm] at hm6 z5s ⊢
  have lgm := hm6.lt
  have o6 := HO4.out.below b6 (Nat.le_refl _)
  have b36 := btr HB4.out b6
  obtain ⟨g4, rfl, lg4, lg5⟩ : ∃ g, a4 = some ⟨g, 0, none⟩ ∧ W3.heap.size ≤ g ∧ g < gm := by
    rcases HO4.out.shape with ⟨_, h, _⟩ | ⟨g, cur, h1, h2, h3, _⟩
    · omega
    · exact ⟨g, h1, h2, by omega⟩
  have hp0 := Hp0.out
  have hP0 : (p.take e)[0]? = some b0 := by rw [hp0, List.getElem?_take, if_pos (by omega)]; rfl
  have hpd : p.getD 0 0 = b0 := by rw [hp0]; rfl
  obtain ⟨m0, hm0⟩ : ∃ m0, m[0]? = some m0 := ⟨_, List.getElem?_eq_getElem (by omega)⟩
  have hmd : m.getD 0 0 = m0 := by rw [List.getD_eq_getElem?_getD, hm0]; rfl
  have hPd : (p.take e).getD 0 0 = b0 := by rw [List.getD_eq_getElem?_getD, hP0]; rfl
  have hkk := HD.out.hk
  have hqq := HD.out.hq
  rw [hpd, hmd] at hkk
  unfold unS at hqq
  rw [hPd, hmd] at hqq
  have hfa := fst_and b0 m0
  have hbl0 := b0.toNat_lt
  have hml0 := m0.toNat_lt
  have hz8 := (fstS b0 m0).toNat_lt
  have o7 := o6.setCell 0 (B (fstS b0 m0)) rfl
  rw [← List.map_set] at o7
  have q0 : w6.cell? ⟨g4, 0, none⟩ = some (.int .u8 (b0.toNat : Int)) := o6.cell 0 (B b0) (by rw [List.getElem?_map, hP0]; rfl)
  have f0 := o6.frozen 0
  have q1 : w6.cell? ⟨gm, 0, none⟩ = some (.int .u8 (m0.toNat : Int)) := hm6.cell 0 m0 hm0
  have hbt := bitsN_lt b0.toNat
  have Hbits := Lib.hid (fun w => bits_any w b0.toNat hbl0)
  obtain ⟨K, hKK⟩ : ∃ K, bitsN b0.toNat = K := ⟨_, rfl⟩
  rw [hKK] at hfa hbt Hbits
  have hand := u8_and_nat m0.toNat K hml0 hbt
  obtain ⟨r, hr⟩ : ∃ r, m0.toNat &&& K = r := ⟨_, rfl⟩
  rw [hr] at hfa hand
  have hrl : r < 256 := by rw [← hr]; exact Nat.lt_of_le_of_lt Nat.and_le_left hml0
  have hxor := u8_xor_nat b0.toNat r hbl0 hrl
  obtain ⟨z, hz⟩ : ∃ z, (fstS b0 m0).toNat = z := ⟨_, rfl⟩
  have hv : B (fstS b0 m0) = .int .u8 (z : Int) := by unfold B; rw [hz]
  rw [← hfa, hz] at hxor
  rw [hz] at hkk hz8
  obtain ⟨Q1, hQ1⟩ : ∃ Q1, (p.take e).set 0 (fstS b0 m0) = Q1 := ⟨_, rfl⟩
  rw [hQ1] at hqq o7
  rw [hv] at o7
  have g7 : w6.grownBy (w6.setCell ⟨g4, 0, none⟩ (.int .u8 (z : Int))) (some g4) := grownBy_setCell _ _ _
  have HO7 := Lib.hid o7.drew
  have HG7 := Lib.hid (grown_drew g7)
  have Hm6 := Lib.hid hm6
  have HB36 := Lib.hid b36
  have Hqq : EB (unJ Q1 m t k) q := ⟨hqq⟩
  have hQ1l : Q1.length = e := by rw [← hQ1, List.length_set, List.length_take]; have := BS.len HO4.out.rs; omega
  have hQ0 : Q1[0]? = some (fstS b0 m0) := by rw [← hQ1]; exact List.getElem?_set_self (by rw [List.length_take]; have := BS.len HO4.out.rs; omega)
  have HQ0 := Lib.hid hQ0
  have Hz := Lib.hid hz
  clear o6 b36 b6 hp0 hP0 hpd hm0 hmd hPd hqq hfa hKK hr hz hv hQ1 o7 g7 hm6 hg6 B5 hgm HO4 HB4 Hmk rA4 hQ0
  have he0 : 0 < e := by omega
  go_still_tail 12, (by kernel_rfl)
  still_call ((Hbits.out _).mono (fun e w' h => ⟨h.1, h.2.symm⟩))
  repeat still_step
  refine wpStill_nil ?_
  change wpList _ _ _ _ _ w6.drew
  go_upto_region 7 with (fail)
  have hm7 : AB (w6.setCell ⟨g4, 0, none⟩ (.int .u8 (z : Int))).drew gm 84 m := Hm6.out.grown HG7.out (by simp; omega)
  have Hm7 := Lib.hid hm7
  clear hm7 Hm6 q0 q1 f0 hxor hand Hbits
  generalize (World.setCell _ _ _).drew = W7 at *
  obtain ⟨k1, hk1e⟩ : ∃ k1, z % 4 = k1 := ⟨_, rfl⟩
  have hand3 := u8_and_nat z 3 hz8 (by decide)
  rw [and_3, hk1e] at hand3
  have hand3' : bits .and .u8 (z : Int) 3 = (k1 : Int) := hand3
  have hki : (k1 : Int) + 1 = (k : Int) := by omega
  have hk14 : k1 < 4 := by omega
  have q7 : W7.cell? ⟨g4, 0, none⟩ = some (.int .u8 (z : Int)) := HO7.out.cell 0 _ (by rw [List.getElem?_map, HQ0.out]; show some (B _) = _; unfold B; rw [Hz.out])
  clear hand3
  go_upto_region 8 with (fail)
  clear q7 hand3'
  have ho7 : OW W7 W3.heap.size 5 1 (some ⟨g4, 0, none⟩) e c4 ((unJ Q1 m t 0).map B) := HO7.out
  go_wp2
  go_loopw [55] (fun s55 wr => ∃ i : Nat, i ≤ k ∧ s55 = .int .i64 (i : Int) ∧ OW wr W3.heap.size 5 1 (some ⟨g4, 0, none⟩) e c4 ((unJ Q1 m t i).map B) ∧ W7.grownBy wr (some g4)) (fun s55 _ => k - (intOf s55).toNat)
  case atStart => exact ⟨0, by omega, rfl, ho7, World.grownBy.refl W7 _⟩
  case round =>
    obtain ⟨i, hi, rfl, hO, hG⟩ := hrel
    clear ho7
    by_cases hlt : i < k
    · obtain ⟨u, hu⟩ : ∃ u, t + i = u := ⟨_, rfl⟩
      have hui : (t : Int) + (i : Int) = (u : Int) := by omega
      have hue : u < e := by omega
      obtain ⟨x, hx⟩ : ∃ x, (unJ Q1 m t i)[u]? = some x := ⟨_, List.getElem?_eq_getElem (by rw [unJ_len]; omega)⟩
      obtain ⟨y, hy⟩ : ∃ y, m[1 + i]? = some y := ⟨_, List.getElem?_eq_getElem (by omega)⟩
      have hxl := x.toNat_lt
      have hyl := y.toNat_lt
      have q0 : wr.cell? ⟨g4, u, none⟩ = some (.int .u8 (x.toNat : Int)) := hO.cell u (B x) (by rw [List.getElem?_map, hx]; rfl)
      have f0 := hO.frozen u
      obtain ⟨v, hvv⟩ : ∃ v, 1 + i = v := ⟨_, rfl⟩
      have hvi : 1 + (i : Int) = (v : Int) := by omega
      have hv5 : v < 5 := by omega
      have q1 : wr.cell? ⟨gm, v, none⟩ = some (.int .u8 (y.toNat : Int)) := (Hm7.out.grown hG (by simp; omega)).cell v y (by rw [← hvv]; exact hy)
      have hxor := u8_xor_nat x.toNat y.toNat hxl hyl
      have hv : B (x ^^^ y) = .int .u8 ((x.toNat ^^^ y.toNat : Nat) : Int) := by simp [B]
      have hset : (unJ Q1 m t i).set u (x ^^^ y) = unJ Q1 m t (i + 1) := by
        rw [unJ, hu, List.getD_eq_getElem?_getD, hx, List.getD_eq_getElem?_getD, hy]; rfl
      have hO6 := hO.setCell u (B (x ^^^ y)) rfl
      rw [← List.map_set, hset, hv] at hO6
      have hG6 := grown_set hG u (B (x ^^^ y))
      rw [hv] at hG6
      have HO6 := Lib.hid (OW.drew hO6)
      have HG6 := Lib.hid (grown_drew hG6)
      obtain ⟨z', hz'⟩ : ∃ z', x.toNat ^^^ y.toNat = z' := ⟨_, rfl⟩
      rw [hz'] at hxor HO6 HG6
      clear hu hx hy hset hO hG hv hO6 hG6 hz' hvv
      go_upto_region 11 with (fail)
      go_region
      clear q0 q1 f0 hxor
      generalize World.drew _ = W8 at *
      go_wp2
      go_roundw
      case rel => exact ⟨i + 1, by omega, by go_num, HO6.out, HG6.out⟩
      case measure => simp [intOf]; omega
    · obtain rfl : i = k := by omega
      rw [Hqq.h] at hO
      have hG36 : w6.grownBy wr (some g4) := grown_trans HG7.out hG
      have hHw : HB wr h3 L lv false (.slice ta tn tc) (.slice fa fn fc) := (HH3.out.grown (grown_of_below (row := none) HB36.out) (by simp)).grown hG36 (by simp; omega)
      have hOw : HB wr (w.heap.size + 1) false 0 false (.slice none 0 0) (.slice none 0 0) := (HO3.out.grown (grown_of_below (row := none) HB36.out) (by simp)).grown hG36 (by simp; omega)
      have hb3w : Below W3.heap.size W3 wr := HB36.out.grown hG36 HB36.out.size (fun k hk => by cases hk; exact lg4)
      have hT8 := RS.below HT3.out hb3w (Nat.le_refl _)
      have hF8 := RS.below HF3.out hb3w (Nat.le_refl _)
      have hb8 := HB3.out.trans (hb3w.mono HB3.out.size)
      obtain ⟨b7, hb7⟩ : ∃ b7, q[0]? = some b7 := ⟨_, List.getElem?_eq_getElem (by omega)⟩
      have hqd : q.getD 0 0 = b7 := by rw [List.getD_eq_getElem?_getD, hb7]; rfl
      have q0 : wr.cell? ⟨g4, 0, none⟩ = some (.int .u8 (b7.toNat : Int)) := hO.cell 0 (B b7) (by rw [List.getElem?_map, hb7]; rfl)
      have hb7l := b7.toNat_lt
      have hph : phS L q = (!L && decide (b7.toNat / 4 % 2 = 1)) := by unfold phS; rw [hqd]
      have hand4 := u8_and_nat b7.toNat 4 hb7l (by decide)
      have h40 := and_4 b7.toNat hb7l
      obtain ⟨a7, ha7⟩ : ∃ a7, b7.toNat &&& 4 = a7 := ⟨_, rfl⟩
      rw [ha7] at hand4 h40
      have hand4' : bits .and .u8 (b7.toNat : Int) 4 = (a7 : Int) := hand4
      have HO := Lib.hid hO
      have HT8 := Lib.hid hT8
      have HF8 := Lib.hid hF8
      have HB8 := Lib.hid hb8
      have HHw := Lib.hid hHw
      have HOw := Lib.hid hOw
      have c0 := hHw.cells
      have c1 := hHw.fr
      have c2 := hOw.cells
      have c3 := hOw.fr
      clear hO hT8 hF8 hb8 hb3w hG hG36 hb7 hqd ha7 hand4 hHw hOw HO7 HG7 Hm7 HH3 HO3 HB3 HT3 HF3
      have hcase : L = true ∧ phS L q = false ∨ L = false ∧ phS L q = ((a7 : Int) != 0) := by
        rw [hph]
        cases L
        · refine .inr ⟨rfl, ?_⟩
          by_cases h0 : a7 = 0
          · have := h40.1 h0
            subst h0
            simp; omega
          · have h1 : b7.toNat / 4 % 2 = 1 := by have := fun h => h0 (h40.2 h); omega
            have h2 : ((a7 : Int) != 0) = true := by simp; omega
            rw [h2, h1]; rfl
        · exact .inl ⟨rfl, rfl⟩
      clear hph h40
      rcases hcase with ⟨rfl, hp⟩ | ⟨rfl, hp⟩
      · have HPH := Lib.hid hp
        clear hp
        go_upto_region 14 with (fail)
        clear q0 hand4' c0 c1 c2 c3
        have hH9 := HHw.out.set2 false
        have hO9 : HB (wr.setCell ⟨h3, 2, none⟩ (.bool false)) (w.heap.size + 1) false 0 false (.slice none 0 0) (.slice none 0 0) := HB.other HOw.out (by omega)
        have g9 := grownBy_setCell wr ⟨h3, 2, none⟩ (.bool false)
        have h3w : w.heap.size ≤ h3 := by omega
        have HB9 := Lib.hid (HB8.out.grown g9 HB8.out.size (fun k hk => by cases hk; exact h3w))
        have HO9 := Lib.hid (HO.out.setOther (fun x hx => by cases hx; simp; omega) (ad := ⟨h3, 2, none⟩) (.bool false))
        have HT9 := Lib.hid (BS.setBool HT8.out HHw.out.cells.2.2.1 (.bool false))
        have HF9 := Lib.hid (BS.setBool HF8.out HHw.out.cells.2.2.1 (.bool false))
        have c0 := hH9.cells
        have c1 := hO9.cells
        have c2 := hO9.fr
        generalize (World.setCell _ _ _) = W9 at *
        have hne9 : ∀ x, (some (⟨g4, 0, none⟩ : Addr)) = some x → x.block ≠ w.heap.size + 1 := fun x hx => by cases hx; simp; omega
        have hle9 : w.heap.size ≤ W3.heap.size := by omega
        go_region
        go_wp2_with fail
        refine bodyPost_ret (v := .tuple #[.slice (some ⟨g4, 0, none⟩) e c4, .agg #[.bool true, .int .i64 lv, .bool false, .slice ta tn tc, .slice fa fn fc], .int .i64 (t : Int), .int .i64 (i : Int), .int .i64 0]) (by simp [results, Tryd.results32, go_sem, c1]) rfl ?_
        refine ⟨some ⟨g4, 0, none⟩, c4, ta, tn, tc, fa, fn, fc, ?_, ?_, ?_, ?_, ?_⟩
        · rw [HPH.out]
        · exact OW.drew ((OW.sets5 HO9.out hne9 (.bool true) (.int .i64 lv) (.bool false) (.slice ta tn tc) (.slice fa fn fc)).mono hle9)
        · exact RS.drew (BS.setsHB HT9.out hO9 (.bool true) (.int .i64 lv) (.bool false) (.slice ta tn tc) (.slice fa fn fc))
        · exact RS.drew (BS.setsHB HF9.out hO9 (.bool true) (.int .i64 lv) (.bool false) (.slice ta tn tc) (.slice fa fn fc))
        · exact (below_sets HB9.out (Nat.le_succ _) (.bool true) (.int .i64 lv) (.bool false) (.slice ta tn tc) (.slice fa fn fc)).drew
      · have HPH := Lib.hid hp
        clear hp
        go_upto_region 14 with (fail)
        clear q0 hand4' c0 c1 c2 c3
        have hH9 := HHw.out.set2 ((a7 : Int) != 0)
        have hO9 : HB (wr.setCell ⟨h3, 2, none⟩ (.bool ((a7 : Int) != 0))) (w.heap.size + 1) false 0 false (.slice none 0 0) (.slice none 0 0) := HB.other HOw.out (by omega)
        have g9 := grownBy_setCell wr ⟨h3, 2, none⟩ (.bool ((a7 : Int) != 0))
        have h3w : w.heap.size ≤ h3 := by omega
        have HB9 := Lib.hid (HB8.out.grown g9 HB8.out.size (fun k hk => by cases hk; exact h3w))
        have HO9 := Lib.hid (HO.out.setOther (fun x hx => by cases hx; simp; omega) (ad := ⟨h3, 2, none⟩) (.bool ((a7 : Int) != 0)))
        have HT9 := Lib.hid (BS.setBool HT8.out HHw.out.cells.2.2.1 (.bool ((a7 : Int) != 0)))
        have HF9 := Lib.hid (BS.setBool HF8.out HHw.out.cells.2.2.1 (.bool ((a7 : Int) != 0)))
        have c0 := hH9.cells
        have c1 := hO9.cells
        have c2 := hO9.fr
        generalize (World.setCell _ _ _) = W9 at *
        have hne9 : ∀ x, (some (⟨g4, 0, none⟩ : Addr)) = some x → x.block ≠ w.heap.size + 1 := fun x hx => by cases hx; simp; omega
        have hle9 : w.heap.size ≤ W3.heap.size := by omega
        go_region
        go_wp2_with fail
        refine bodyPost_ret (v := .tuple #[.slice (some ⟨g4, 0, none⟩) e c4, .agg #[.bool false, .int .i64 lv, .bool ((a7 : Int) != 0), .slice ta tn tc, .slice fa fn fc], .int .i64 (t : Int), .int .i64 (i : Int), .int .i64 0]) (by simp [results, Tryd.results32, go_sem, c1]) rfl ?_
        refine ⟨some ⟨g4, 0, none⟩, c4, ta, tn, tc, fa, fn, fc, ?_, ?_, ?_, ?_, ?_⟩
        · rw [HPH.out]
        · exact OW.drew ((OW.sets5 HO9.out hne9 (.bool false) (.int .i64 lv) (.bool ((a7 : Int) != 0)) (.slice ta tn tc) (.slice fa fn fc)).mono hle9)
        · exact RS.drew (BS.setsHB HT9.out hO9 (.bool false) (.int .i64 lv) (.bool ((a7 : Int) != 0)) (.slice ta tn tc) (.slice fa fn fc))
        · exact RS.drew (BS.setsHB HF9.out hO9 (.bool false) (.int .i64 lv) (.bool ((a7 : Int) != 0)) (.slice ta tn tc) (.slice fa fn fc))
        · exact (below_sets HB9.out (Nat.le_succ _) (.bool false) (.int .i64 lv) (.bool ((a7 : Int) != 0)) (.slice ta tn tc) (.slice fa fn fc)).drew
end Go.Proofs.YtlncnjcbgfeaoaaDoor

/- parcel.bare refused; parcel.Peek. -/
set_option maxRecDepth 100000
set_option linter.unusedVariables false
namespace Go.Proofs.YtlncnjcbgfeaoaaDoor
open Go.RowKit
set_option maxHeartbeats 4000000 in
theorem bare_err (w : World) {a : Option Addr} {n c pa pe : Nat} {e1 : Int} {key p : List UInt8} {hd : Hd} (hp : BS w a n c p) (hK : KG w) (hn : n ≤ 140737488355328) (hR : readS p = (e1, hd, pa, pe)) (h0 : e1 ≠ 0) :
    Calls Tryd.prog 32 #[.slice a n c, .agg (key.map B).toArray] w fun x w' => ∃ l lv ta tn tc fa fn fc, x = .returned (.tuple #[.slice none 0 0, .agg #[.bool l, .int .i64 lv, .bool false, .slice ta tn tc, .slice fa fn fc], .int .i64 0, .int .i64 0, .int .i64 e1]) ∧ Below w.heap.size w w' := by
  have hz1 : (w.alloc (.cells (key.map B).toArray 22)).heap.size = w.heap.size + 1 := by simp
  have hO : HB ((w.alloc (.cells (key.map B).toArray 22)).alloc hobj) (w.heap.size + 1) false 0 false (.slice none 0 0) (.slice none 0 0) := by
    have := HB_new (w.alloc (.cells (key.map B).toArray 22)); rw [hz1] at this; exact this
  have hbl : Below w.heap.size w _ := (below_alloc w (.cells (key.map B).toArray 22)).alloc (by simp) hobj
  have hp1 := (RS.alloc hp (.cells (key.map B).toArray 22)).alloc hobj
  have hK1 := (hK.below (below_alloc w (.cells (key.map B).toArray 22))).below (below_alloc _ hobj)
  have Hrd := Lib.hid hR
  have hne : (e1 != 0) = true := by simpa using h0
  clear hz1 hK hR
  go_enter Tryd.func32, Tryd.ntmps32
  go_upto_region 1 with (fail)
  obtain ⟨W1, hW1⟩ : ∃ W1, (w.alloc (.cells (key.map B).toArray 22)).alloc hobj = W1 := ⟨_, rfl⟩
  have hW1' := hW1
  unfold hobj at hW1'
  rw [hW1'] 
  rw [hW1] at hO hbl hp1 hK1
  clear hW1 hW1'
  have l1 := hO.lt
  have hbs := hbl.size
  have Hrq := Lib.hid (Readq W1 p hp1 hK1 hn Hrd.out)
  have HO := Lib.hid hO
  have HBb := Lib.hid hbl
  clear hO hbl hp1 hK1 hp
  obtain ⟨L, lv, tt, ff⟩ := hd
  go_upto_region 2 with (go_at_call 52; refine Hrq.out.mono ?_; rintro x w2 ⟨ta, tn, tc, fa, fn, fc, rfl, hT2, hF2, B2⟩)
  have b2s := B2.size
  have hH3 : HB (w2.alloc (.cells #[.bool L, .int .i64 lv, .bool false, .slice ta tn tc, .slice fa fn fc] 43)) w2.heap.size L lv false (.slice ta tn tc) (.slice fa fn fc) := heap_alloc_new w2 _
  have b3 := B2.alloc b2s (.cells #[.bool L, .int .i64 lv, .bool false, .slice ta tn tc, .slice fa fn fc] 43)
  generalize (World.alloc _ _) = W3 at *
  have hO3 := HO.out.grown (grown_of_below (row := none) b3) (by simp)
  have HB3 := Lib.hid (HBb.out.trans (b3.mono hbs))
  have c0 := hH3.cells
  have c1 := hO3.cells
  have c2 := hO3.fr
  clear hT2 hF2 B2 b3 Hrq HO HBb
  go_upto_region 3 with (fail)
  go_region
  go_wp2_with fail
  refine bodyPost_ret (v := .tuple #[.slice none 0 0, .agg #[.bool L, .int .i64 lv, .bool false, .slice ta tn tc, .slice fa fn fc], .int .i64 0, .int .i64 0, .int .i64 e1]) (by simp [results, Tryd.results32, go_sem, c1]) rfl ?_
  exact ⟨L, lv, ta, tn, tc, fa, fn, fc, rfl, (below_sets HB3.out (Nat.le_succ _) (.bool L) (.int .i64 lv) (.bool false) (.slice ta tn tc) (.slice fa fn fc)).drew⟩
theorem HB.others {w : World} {b : Nat} {l : Bool} {lv : Int} {ph : Bool} {t f : Value} (h : HB w b l lv ph t f) {b' : Nat} (hb : b ≠ b') (v0 v1 v2 v3 v4 : Value) :
    HB (((((w.setCell ⟨b', 0, none⟩ v0).setCell ⟨b', 1, none⟩ v1).setCell ⟨b', 2, none⟩ v2).setCell ⟨b', 3, none⟩ v3).setCell ⟨b', 4, none⟩ v4) b l lv ph t f :=
  HB.other (HB.other (HB.other (HB.other (HB.other h hb.symm) hb.symm) hb.symm) hb.symm) hb.symm
theorem iHd : (Tryd.prog.info? 43).map (·.size) = some 5 := by kernel_rfl
/-- a head stored into a head of the call's own -/
theorem L_storeH {w : World} {ops : Array Oper} {rest : List Oper} {o : Oper} {f : Act} {Q : Exit → Act → World → Prop} (hgd : o.guard = none) (x y : Operand) (ho : o.op = .store 43 x y)
    {b : Nat} {l l' : Bool} {lv lv' : Int} {ph ph' : Bool} {t1 f1 t2 f2 : Value} (hx : f.eval x = .pointer (some ⟨b, 0, none⟩)) (hy : f.eval y = .agg #[.bool l', .int .i64 lv', .bool ph', t2, f2]) (h1 : t2.oneCell' = true) (h2 : f2.oneCell' = true) (hA : HB w b l lv ph t1 f1)
    (h : ∀ w', HB w' b l' lv' ph' t2 f2 → w.grownBy w' (some b) → wpList Tryd.prog ops Q rest (f.put o.dst undef) w') : wpList Tryd.prog ops Q (o :: rest) f w := by
  refine wpList_store_row hgd 43 x y ho b _ hx hy 43 _ hA iHd rfl (by rw [Array.all_eq_true_iff_forall_mem]; intro v hv; simp at hv; rcases hv with rfl | rfl | rfl | rfl | rfl <;> first | rfl | assumption) ?_
  exact h _ (setRow_heap _ _ _ _ _ _ hA) (grownBy_setRow w b _)
theorem S_storeH {w : World} {ops : Array Oper} {o : Oper} {f : Act} {K : Act → World → Prop} {Q : Exit → Act → World → Prop} {E : Prop} (hgd : o.guard = none) (x y : Operand) (ho : o.op = .store 43 x y)
    {b : Nat} {l l' : Bool} {lv lv' : Int} {ph ph' : Bool} {t1 f1 t2 f2 : Value} (hx : f.eval x = .pointer (some ⟨b, 0, none⟩)) (hy : f.eval y = .agg #[.bool l', .int .i64 lv', .bool ph', t2, f2]) (h1 : t2.oneCell' = true) (h2 : f2.oneCell' = true) (hA : HB w b l lv ph t1 f1)
    (h : ∀ w', HB w' b l' lv' ph' t2 f2 → w.grownBy w' (some b) → K (f.put o.dst undef) w') : if Region.wanted o (yielded ops f.tmps) = true then Oper.wp Tryd.prog o f w K Q else E := by
  rw [if_pos (by simp [Region.wanted, hgd])]
  refine wp_store_row 43 x y ho b _ hx hy 43 _ hA iHd rfl (by rw [Array.all_eq_true_iff_forall_mem]; intro v hv; simp at hv; rcases hv with rfl | rfl | rfl | rfl | rfl <;> first | rfl | assumption) ?_
  exact h _ (setRow_heap _ _ _ _ _ _ hA) (grownBy_setRow w b _)
/-- what a head's five cells hold -/
def HC5 (w : World) (b : Nat) (l : Bool) (lv : Int) (ph : Bool) (t f : Value) : Prop := w.cell? ⟨b, 0, none⟩ = some (.bool l) ∧ w.cell? ⟨b, 1, none⟩ = some (.int .i64 lv) ∧ w.cell? ⟨b, 2, none⟩ = some (.bool ph) ∧ w.cell? ⟨b, 3, none⟩ = some t ∧ w.cell? ⟨b, 4, none⟩ = some f
theorem HC5.bl {n : Nat} {w w' : World} {b : Nat} {l : Bool} {lv : Int} {ph : Bool} {t f : Value} (h : HC5 w b l lv ph t f) (hb : Below n w w') (hg : b < n) : HC5 w' b l lv ph t f :=
  ⟨(hb.cell (p := ⟨b, 0, none⟩) hg).trans h.1, (hb.cell (p := ⟨b, 1, none⟩) hg).trans h.2.1, (hb.cell (p := ⟨b, 2, none⟩) hg).trans h.2.2.1, (hb.cell (p := ⟨b, 3, none⟩) hg).trans h.2.2.2.1, (hb.cell (p := ⟨b, 4, none⟩) hg).trans h.2.2.2.2⟩
theorem BS.grownHB {w w' : World} {a : Option Addr} {n c : Nat} {xs : List UInt8} (h : BS w a n c xs) {b : Nat} {l : Bool} {lv : Int} {ph : Bool} {a1 a2 : Option Addr} {n1 c1 n2 c2 : Nat}
    (hB : HB w b l lv ph (.slice a1 n1 c1) (.slice a2 n2 c2)) (hg : w.grownBy w' (some b)) : BS w' a n c xs := by
  by_cases hn : 0 < n
  · exact RS.grown h hg (fun ad ha he => h.notHB hn hB ad ha (by simpa using he))
  · have hl := h.len
    obtain rfl : n = 0 := by omega
    obtain rfl : xs = [] := List.eq_nil_of_length_eq_zero hl
    exact RS.empty h _
/-- what stands where a packet's number stands -/
def cutS (q : List UInt8) (t k : Nat) : Nat := beNat ((q.drop t).take k) 0
theorem cutS_lt (q : List UInt8) (t k : Nat) (hk : k ≤ 4) : cutS q t k < 4611686018427387904 := beNat_lt' _ _ (by omega) (by rw [List.length_take]; omega)
/-- a cut of a slice of the call's own, as a value -/
theorem runB_lh {W0 : World} {a : Option Addr} {n c : Nat} {xs : List UInt8} (hx : BS W0 a n c xs) (i j : Nat) (h1 : i ≤ j) (h2 : j ≤ n) :
    ∃ a', BS W0 a' (j - i) (c - i) ((xs.drop i).take (j - i)) ∧ ∀ W, (Instr.slice 23 (.slice a n c) (some (.int .i64 (i : Int))) (some (.int .i64 (j : Int))) none).run Tryd.prog W = .ok (.slice a' (j - i) (c - i)) W := by
  have hle := RS.le hx
  have h := RS.cut hx i j c h1 h2 (by omega) (Nat.le_refl _)
  refine ⟨if c = i then a else a.map (·.add (i * 1)), by unfold BS; simpa only [Nat.mul_one, List.map_take, List.map_drop] using h, fun W => ?_⟩
  have hz : (Go.sizeOf (Tryd.prog.elem 23)).run Tryd.prog W = .ok 1 W := tB.sizeOf
  rw [run_slice_lh W 23 _ _ _ tB.und' .i64 .i64 _ _ (by omega) (by omega) (by omega), hz]
  simp only [Result.andThen, Int.toNat_natCast]
  rw [sliced_eq]
set_option maxHeartbeats 4000000 in
theorem peek_err (w : World) {a : Option Addr} {n c pa pe : Nat} {e1 : Int} {key p : List UInt8} {hd : Hd} (hkl : key.length = 32) (hp : BS w a n c p) (hK : KG w) (hn : n ≤ 140737488355328) (hR : readS p = (e1, hd, pa, pe)) (h0 : e1 ≠ 0) :
    Calls Tryd.prog 22 #[.slice a n c, .agg (key.map B).toArray] w fun x w' => x = .returned (.tuple #[.agg #[.bool false, .int .i64 0, .bool false, .slice none 0 0, .slice none 0 0], .int .u64 0, .int .i64 0, .int .i64 e1]) ∧ Below w.heap.size w w' := by
  have hz1 : (w.alloc (.cells (key.map B).toArray 22)).heap.size = w.heap.size + 1 := by simp
  have hA := (AB_box w 22 key).al hobj
  have hO : HB ((w.alloc (.cells (key.map B).toArray 22)).alloc hobj) (w.heap.size + 1) false 0 false (.slice none 0 0) (.slice none 0 0) := by
    have := HB_new (w.alloc (.cells (key.map B).toArray 22)); rw [hz1] at this; exact this
  have hbl : Below w.heap.size w _ := (below_alloc w (.cells (key.map B).toArray 22)).alloc (by simp) hobj
  have hp1 := (RS.alloc hp (.cells (key.map B).toArray 22)).alloc hobj
  have hK1 := (hK.below (below_alloc w (.cells (key.map B).toArray 22))).below (below_alloc _ hobj)
  have hs32 := Lib.hid (show (Tryd.prog.info? 22).map (·.size) = some (key.map B).length by rw [List.length_map, hkl]; kernel_rfl)
  have Hrd := Lib.hid hR
  have hne : (e1 != 0) = true := by simpa using h0
  clear hz1 hK hR
  go_enter Tryd.func22, Tryd.ntmps22
  go_upto_region 1 with (fail)
  obtain ⟨W1, hW1⟩ : ∃ W1, (w.alloc (.cells (key.map B).toArray 22)).alloc hobj = W1 := ⟨_, rfl⟩
  have hW1' := hW1
  unfold hobj at hW1'
  rw [hW1'] 
  rw [hW1] at hA hO hbl hp1 hK1
  clear hW1 hW1'
  have l1 := hO.lt
  have hbs := hbl.size
  have rA := hA.rng
  have Hrq := Lib.hid (bare_err (key := key) W1 hp1 hK1 hn Hrd.out h0)
  have HO := Lib.hid hO
  have HBb := Lib.hid hbl
  clear hA hO hbl hp1 hK1 hp
  go_upto_region 2 with (first
    | (refine wpList_load_mid rfl _ _ rfl _ _ rfl (key.map B) _ rA Tryd.underlying22 rfl hs32.out ?_)
    | (go_at_call 32; refine Hrq.out.mono ?_; rintro x w2 ⟨L, lv, ta, tn, tc, fa, fn, fc, rfl, B2⟩))
  have b2s := B2.size
  have b3 := B2.alloc b2s (.cells #[.bool L, .int .i64 lv, .bool false, .slice ta tn tc, .slice fa fn fc] 43)
  generalize (World.alloc _ _) = W3 at *
  have hO3 := HO.out.grown (grown_of_below (row := none) b3) (by simp)
  have HB3 := Lib.hid (HBb.out.trans (b3.mono hbs))
  have c1 := hO3.cells
  have c2 := hO3.fr
  clear B2 b3 Hrq HO HBb rA
  go_wp2_with fail
  refine bodyPost_ret (v := .tuple #[.agg #[.bool false, .int .i64 0, .bool false, .slice none 0 0, .slice none 0 0], .int .u64 0, .int .i64 0, .int .i64 e1]) (by simp [results, Tryd.results22, go_sem, c1]) rfl ?_
  exact ⟨rfl, below_sets HB3.out (Nat.le_succ _) _ _ _ _ _⟩
set_option maxHeartbeats 4000000 in
theorem peek_ok (w : World) {a : Option Addr} {n c t e k : Nat} {key p m q : List UInt8} {hd : Hd} (hkl : key.length = 32) (hp : BS w a n c p) (hK : KG w) (hn : n ≤ 140737488355328) (hD : BAR key p hd t e m q k) :
    Calls Tryd.prog 22 #[.slice a n c, .agg (key.map B).toArray] w fun x w' => ∃ ta tn tc fa fn fc, x = .returned (.tuple #[.agg #[.bool hd.long, .int .i64 hd.level, .bool (phS hd.long q), .slice ta tn tc, .slice fa fn fc], .int .u64 (cutS q t k : Int), .int .i64 (k : Int), .int .i64 0]) ∧
      BS w' ta tn tc hd.to ∧ BS w' fa fn fc hd.frm ∧ Below w.heap.size w w' := by
  have hz1 : (w.alloc (.cells (key.map B).toArray 22)).heap.size = w.heap.size + 1 := by simp
  have hA := (AB_box w 22 key).al hobj
  have hO : HB ((w.alloc (.cells (key.map B).toArray 22)).alloc hobj) (w.heap.size + 1) false 0 false (.slice none 0 0) (.slice none 0 0) := by
    have := HB_new (w.alloc (.cells (key.map B).toArray 22)); rw [hz1] at this; exact this
  have hbl : Below w.heap.size w _ := (below_alloc w (.cells (key.map B).toArray 22)).alloc (by simp) hobj
  have hp1 := (RS.alloc hp (.cells (key.map B).toArray 22)).alloc hobj
  have hK1 := (hK.below (below_alloc w (.cells (key.map B).toArray 22))).below (below_alloc _ hobj)
  have hs32 := Lib.hid (show (Tryd.prog.info? 22).map (·.size) = some (key.map B).length by rw [List.length_map, hkl]; kernel_rfl)
  obtain ⟨hk1, hk4, hte, hen, hql, -⟩ := hD.le
  have hpl := BS.len hp
  have hcn := RS.max hp
  unfold maxLen at hcn
  have HD := Lib.hid hD
  clear hz1 hK hD
  obtain ⟨L, lv, tt, ff⟩ := hd
  obtain ⟨PH, hPH⟩ : ∃ PH, phS L q = PH := ⟨_, rfl⟩
  obtain ⟨C, hC⟩ : ∃ C, cutS q t k = C := ⟨_, rfl⟩
  dsimp only
  rw [hPH, hC]
  go_enter Tryd.func22, Tryd.ntmps22
  go_upto_region 1 with (fail)
  obtain ⟨W1, hW1⟩ : ∃ W1, (w.alloc (.cells (key.map B).toArray 22)).alloc hobj = W1 := ⟨_, rfl⟩
  have hW1' := hW1
  unfold hobj at hW1'
  rw [hW1'] 
  rw [hW1] at hA hO hbl hp1 hK1
  clear hW1 hW1'
  have l1 := hO.lt
  have hbs := hbl.size
  have rA := hA.rng
  have hrq := bare_ok W1 hkl hp1 hK1 hn HD.out
  dsimp only at hrq
  rw [hPH] at hrq
  have Hrq := Lib.hid hrq
  have HO := Lib.hid hO
  have HBb := Lib.hid hbl
  clear hA hO hbl hp1 hK1 hp hrq
  go_upto_region 2 with (first
    | (refine wpList_load_mid rfl _ _ rfl _ _ rfl (key.map B) _ rA Tryd.underlying22 rfl hs32.out ?_)
    | (go_at_call 32; refine Hrq.out.mono ?_; rintro x w2 ⟨a2, c2, ta, tn, tc, fa, fn, fc, rfl, o2, hT2, hF2, B2⟩))
  have b2s := B2.size
  have hH3 : HB (w2.alloc (.cells #[.bool L, .int .i64 lv, .bool PH, .slice ta tn tc, .slice fa fn fc] 43)) w2.heap.size L lv PH (.slice ta tn tc) (.slice fa fn fc) := heap_alloc_new w2 _
  have b3 := B2.alloc b2s (.cells #[.bool L, .int .i64 lv, .bool PH, .slice ta tn tc, .slice fa fn fc] 43)
  have hT3 := RS.alloc hT2 (.cells #[.bool L, .int .i64 lv, .bool PH, .slice ta tn tc, .slice fa fn fc] 43)
  have hF3 := RS.alloc hF2 (.cells #[.bool L, .int .i64 lv, .bool PH, .slice ta tn tc, .slice fa fn fc] 43)
  have o3 := RS.alloc o2.rs (.cells #[.bool L, .int .i64 lv, .bool PH, .slice ta tn tc, .slice fa fn fc] 43)
  have c2l := RS.max o2.rs
  unfold maxLen at c2l
  generalize (World.alloc _ _) = W3 at *
  have hO3 := HO.out.grown (grown_of_below (row := none) b3) (by simp)
  have HB3 := Lib.hid (HBb.out.trans (b3.mono hbs))
  obtain ⟨a5, h5, hsl⟩ := runB_lh o3 t (t + k) (by omega) (by omega)
  rw [Nat.add_sub_cancel_left] at h5 hsl
  have Hnum := Lib.hid (number_any W3.drew (RS.drew h5) hk4)
  have hC' : beNat ((q.drop t).take k) 0 = C := hC
  rw [hC'] at Hnum
  obtain ⟨tk, htk⟩ : ∃ tk, t + k = tk := ⟨_, rfl⟩
  have htki : (t : Int) + (k : Int) = (tk : Int) := by omega
  rw [htk] at hsl
  have htkw : IntKind.i64.wrap (tk : Int) = (tk : Int) := IntWalk.i64_in _ (by omega)
  have HO3 := Lib.hid hO3
  have HT3 := Lib.hid hT3
  have HF3 := Lib.hid hF3
  clear B2 b3 Hrq HO HBb rA hT2 hF2 o2 hT3 hF3 o3 h5 hC hC' hPH htk hO3
  go_upto_region 4 with (fail)
  have hH3d := hH3.drew
  clear hH3
  have hO4 : HB W3.drew (w.heap.size + 1) false 0 false (.slice none 0 0) (.slice none 0 0) := HO3.out.drew
  obtain ⟨h3, hh3⟩ : ∃ h3, w2.heap.size = h3 := ⟨_, rfl⟩
  rw [hh3] at hH3d b2s ⊢
  have hne3 : h3 ≠ w.heap.size + 1 := by omega
  have hl3 : h3 < W3.drew.heap.size := hH3d.lt
  refine wp_region_noPanic ?_
  refine wp_region_held_drew (S := fun w' => HC5 w' h3 L lv PH (.slice ta tn tc) (.slice fa fn fc)) (by kernel_rfl) hH3d.cells (fun hHeld => ?_)
  refine wpAnyH_take (i := 0) (v := .agg #[.bool L, .int .i64 lv, .bool PH, .slice ta tn tc, .slice fa fn fc]) rfl (by kernel_rfl) (by kernel_rfl) (by kernel_rfl) (fun _ _ _ h => h) (Or.inl ⟨by rfl, fun w h => by unfold HC5 at h; go_simp⟩) hHeld ?_
  try simp only [Act.put, List.getElem_toArray, List.getElem_cons_zero, List.setIfInBounds_toArray, List.set_cons_zero, List.set_cons_succ]
  refine wpAnyH_take (i := 1) (v := .slice a2 e c2) rfl (by kernel_rfl) (by kernel_rfl) (by kernel_rfl) (fun _ _ _ h => h) (Or.inl ⟨by rfl, fun w h => by go_simp⟩) hHeld ?_
  try simp only [Act.put, List.getElem_toArray, List.getElem_cons_succ, List.getElem_cons_zero, List.setIfInBounds_toArray, List.set_cons_zero, List.set_cons_succ]
  refine wpAnyH_take (i := 2) (v := .int .i64 (t : Int)) rfl (by kernel_rfl) (by kernel_rfl) (by kernel_rfl) (fun _ _ _ h => h) (Or.inl ⟨by rfl, fun w h => by go_simp⟩) hHeld ?_
  try simp only [Act.put, List.getElem_toArray, List.getElem_cons_succ, List.getElem_cons_zero, List.setIfInBounds_toArray, List.set_cons_zero, List.set_cons_succ]
  refine wpAnyH_take (i := 3) (v := .int .i64 (t : Int)) rfl (by kernel_rfl) (by kernel_rfl) (by kernel_rfl) (fun _ _ _ h => h) (Or.inl ⟨by rfl, fun w h => by go_simp⟩) hHeld ?_
  try simp only [Act.put, List.getElem_toArray, List.getElem_cons_succ, List.getElem_cons_zero, List.setIfInBounds_toArray, List.set_cons_zero, List.set_cons_succ]
  refine wpAnyH_take (i := 4) (v := .int .i64 (k : Int)) rfl (by kernel_rfl) (by kernel_rfl) (by kernel_rfl) (fun _ _ _ h => h) (Or.inl ⟨by rfl, fun w h => by go_simp⟩) hHeld ?_
  try simp only [Act.put, List.getElem_toArray, List.getElem_cons_succ, List.getElem_cons_zero, List.setIfInBounds_toArray, List.set_cons_zero, List.set_cons_succ]
  refine wpAnyH_take (i := 5) (v := .int .i64 (tk : Int)) rfl (by kernel_rfl) (by kernel_rfl) (by kernel_rfl) (fun _ _ _ h => h) (Or.inl ⟨by rfl, fun w h => by go_simp⟩) hHeld ?_
  try simp only [Act.put, List.getElem_toArray, List.getElem_cons_succ, List.getElem_cons_zero, List.setIfInBounds_toArray, List.set_cons_zero, List.set_cons_succ]
  refine wpAnyH_take (i := 6) (v := .slice a5 k (c2 - t)) rfl (by kernel_rfl) (by kernel_rfl) (by kernel_rfl) (fun _ _ _ h => h) (Or.inl ⟨by rfl, fun w h => by go_simp⟩) hHeld ?_
  try simp only [Act.put, List.getElem_toArray, List.getElem_cons_succ, List.getElem_cons_zero, List.setIfInBounds_toArray, List.set_cons_zero, List.set_cons_succ]
  refine wpAnyH_take (i := 8) (v := .int .i64 (k : Int)) rfl (by kernel_rfl) (by kernel_rfl) (by kernel_rfl) (fun _ _ _ h => h) (Or.inl ⟨by rfl, fun w h => by go_simp⟩) hHeld ?_
  try simp only [Act.put, List.getElem_toArray, List.getElem_cons_succ, List.getElem_cons_zero, List.setIfInBounds_toArray, List.set_cons_zero, List.set_cons_succ]
  refine wpAnyH_ready (rs := [7]) (by kernel_rfl) (by simp) (AllReadyH.cons rfl (fun K hK => ?_) AllReadyH.nil)
  go_simp
  go_at_call 34
  refine Hnum.out.mono ?_
  rintro x w5 ⟨rfl, rfl⟩
  refine hK.out _ _ hHeld (fun hHeld => ?_)
  clear hK K
  try simp only [Act.put, List.getElem_toArray, List.getElem_cons_succ, List.getElem_cons_zero, List.setIfInBounds_toArray, List.set_cons_zero, List.set_cons_succ]
  refine wpAnyH_ready (rs := [9]) (by kernel_rfl) (by simp) (AllReadyH.cons rfl (fun K hK => ?_) AllReadyH.nil)
  refine S_storeH rfl _ _ rfl rfl rfl rfl rfl hO4 ?_
  intro w6 hO6 hg6
  refine hK.out _ _ ?_ (fun hHeld => ?_)
  · exact (HB.grown hH3d hg6 (by simp; omega)).cells
  clear hK K
  try simp only [Act.put, List.getElem_toArray, List.getElem_cons_succ, List.getElem_cons_zero]
  refine wpAnyH_ready (rs := [10]) (by kernel_rfl) (by simp) (AllReadyH.cons rfl (fun K hK => ?_) AllReadyH.nil)
  go_simp
  refine hK.out _ _ hHeld (fun hHeld => ?_)
  clear hK K
  try simp only [Act.put, List.getElem_toArray, List.getElem_cons_succ, List.getElem_cons_zero, List.setIfInBounds_toArray, List.set_cons_zero, List.set_cons_succ]
  refine wpAnyH_ready (rs := [11]) (by kernel_rfl) (by simp) (AllReadyH.cons rfl (fun K hK => ?_) AllReadyH.nil)
  go_simp
  refine hK.out _ _ hHeld (fun hHeld => ?_)
  clear hK K
  try simp only [Act.put, List.getElem_toArray, List.getElem_cons_succ, List.getElem_cons_zero, List.setIfInBounds_toArray, List.set_cons_zero, List.set_cons_succ]
  refine wpAnyH_ready (rs := [12]) (by kernel_rfl) (by simp) (AllReadyH.cons rfl (fun K hK => ?_) AllReadyH.nil)
  go_simp
  refine hK.out _ _ hHeld (fun hHeld => ?_)
  clear hK K
  try simp only [Act.put, List.getElem_toArray, List.getElem_cons_succ, List.getElem_cons_zero, List.setIfInBounds_toArray, List.set_cons_zero, List.set_cons_succ]
  refine wpAnyH_done (by kernel_rfl) ?_ _
  refine NoPanic.normal ?_
  try simp only [Act.put, List.getElem_toArray, List.getElem_cons_succ, List.getElem_cons_zero]
  have c6 := hO6.cells
  go_wp2_with fail
  refine bodyPost_ret (v := .tuple #[.agg #[.bool L, .int .i64 lv, .bool PH, .slice ta tn tc, .slice fa fn fc], .int .u64 (C : Int), .int .i64 (k : Int), .int .i64 0]) (by simp [results, Tryd.results22, go_sem, c6]) rfl ?_
  exact ⟨ta, tn, tc, fa, fn, fc, rfl, BS.grownHB (RS.drew HT3.out) hO4 hg6, BS.grownHB (RS.drew HF3.out) hO4 hg6, HB3.out.drew.grown hg6 HB3.out.drew.size (fun k hk => by cases hk; exact Nat.le_succ _)⟩
end Go.Proofs.YtlncnjcbgfeaoaaDoor

/- parcel.Open. -/
set_option maxRecDepth 100000
set_option linter.unusedVariables false
namespace Go.Proofs.YtlncnjcbgfeaoaaDoor
open Go.RowKit
/-- the bits of a first byte that must be none -/
def restN (n : Nat) : Nat := if n < 128 then n / 8 % 4 else n / 4 % 4
def x1N (n : Nat) : Nat := n &&& bitsN n
def x2N (n : Nat) : Nat := x1N n - x1N n % 4
def x3N (n : Nat) : Nat := if n < 128 then x2N n - x2N n / 4 % 2 * 4 else x2N n
theorem restN_zero : ∀ n, n < 256 → (x3N n = 0 ↔ restN n = 0) := by decide +kernel
theorem bits_x1 : ∀ n : Nat, n < 256 → bits .and .u8 (n : Int) (bitsN n : Int) = (x1N n : Int) := by decide +kernel
theorem bits_x2 : ∀ n : Nat, n < 256 → bits .andNot .u8 (x1N n : Int) 3 = (x2N n : Int) := by decide +kernel
theorem bits_x3 : ∀ n : Nat, n < 256 → bits .andNot .u8 (x2N n : Int) (if n < 128 then 4 else 0) = (x3N n : Int) := by decide +kernel
/-- what opening a packet finds -/
structure OPR (ka kb kc p : List UInt8) (largest : Nat) (some : Bool) (hd : Hd) (t e : Nat) (m q : List UInt8) (k pn : Nat) (nn d : List UInt8) (kk : Nat) : Prop where
  bar : BAR kc p hd t e m q k
  gr : GR largest some (cutS q t k) k pn
  non : NON kb pn nn
  op : OPN ka nn (q.drop (t + k)) (q.take (t + k)) d kk
theorem OPR_ex (ka kb : List UInt8) {kc p : List UInt8} (largest : Nat) (some : Bool) {hd : Hd} {t e : Nat} (h : readS p = (0, hd, t, e)) : ∃ m q k pn nn d kk, OPR ka kb kc p largest some hd t e m q k pn nn d kk := by
  obtain ⟨m, q, k, hb⟩ := BAR_ex (key := kc) h
  obtain ⟨pn, hg⟩ := GR_ex largest some (cutS q t k) k hb.le.2.1
  obtain ⟨nn, hn⟩ := NON_ex kb pn
  obtain ⟨d, kk, ho⟩ := OPN_ex ka nn (q.drop (t + k)) (q.take (t + k))
  exact ⟨m, q, k, pn, nn, d, kk, hb, hg, hn, ho⟩
set_option maxHeartbeats 4000000 in
theorem popen_err (w : World) {a : Option Addr} {n c pa pe : Nat} {e1 : Int} {ka kb kc p : List UInt8} {hd : Hd} {v2 v3 : Value} (hal : ka.length = 32) (hbl : kb.length = 12) (hcl : kc.length = 32) (hp : BS w a n c p) (hK : KG w) (hn : n ≤ 140737488355328) (hR : readS p = (e1, hd, pa, pe)) (h0 : e1 ≠ 0) :
    Calls Tryd.prog 19 #[.agg ((ka ++ kb ++ kc).map B).toArray, .slice a n c, v2, v3] w fun x w' => x = .returned (.tuple #[.agg #[.bool false, .int .i64 0, .bool false, .slice none 0 0, .slice none 0 0], .int .u64 0, .slice none 0 0, .slice none 0 0, .int .i64 e1]) ∧ Below w.heap.size w w' := by
  obtain ⟨D, hDe⟩ : ∃ D, ka ++ kb ++ kc = D := ⟨_, rfl⟩
  rw [hDe]
  have hz1 : (w.alloc (.cells (D.map B).toArray 35)).heap.size = w.heap.size + 1 := by simp
  have hA := (AB_box w 35 D).al hobj
  have hO : HB ((w.alloc (.cells (D.map B).toArray 35)).alloc hobj) (w.heap.size + 1) false 0 false (.slice none 0 0) (.slice none 0 0) := by
    have := HB_new (w.alloc (.cells (D.map B).toArray 35)); rw [hz1] at this; exact this
  have hbl' : Below w.heap.size w _ := (below_alloc w (.cells (D.map B).toArray 35)).alloc (by simp) hobj
  have hp1 := (RS.alloc hp (.cells (D.map B).toArray 35)).alloc hobj
  have hK1 := (hK.below (below_alloc w (.cells (D.map B).toArray 35))).below (below_alloc _ hobj)
  have hs32 := Lib.hid (show (Tryd.prog.info? 22).map (·.size) = some (kc.map B).length by rw [List.length_map, hcl]; kernel_rfl)
  have Hrd := Lib.hid hR
  have hne : (e1 != 0) = true := by simpa using h0
  have hpr := fun (w' : World) (h : w'.rangeAt w.heap.size 0 (D.map B)) => (rng_parts (a := ka) (b := kb) (c := kc) (by rw [hDe]; exact h) hal hbl).2.2
  clear hz1 hK hR hDe
  go_enter Tryd.func19, Tryd.ntmps19
  go_upto_region 1 with (fail)
  obtain ⟨W1, hW1⟩ : ∃ W1, (w.alloc (.cells (D.map B).toArray 35)).alloc hobj = W1 := ⟨_, rfl⟩
  have hW1' := hW1
  unfold hobj at hW1'
  rw [hW1'] 
  rw [hW1] at hA hO hbl' hp1 hK1
  clear hW1 hW1'
  have l1 := hO.lt
  have hbs := hbl'.size
  have rA := hpr W1 hA.rng
  have Hrq := Lib.hid (bare_err (key := kc) W1 hp1 hK1 hn Hrd.out h0)
  have HO := Lib.hid hO
  have HBb := Lib.hid hbl'
  clear hA hO hbl' hp1 hK1 hp hpr
  go_upto_region 2 with (first
    | (refine wpList_load_mid rfl _ _ rfl _ _ rfl (kc.map B) _ rA Tryd.underlying22 rfl hs32.out ?_)
    | (go_at_call 32; refine Hrq.out.mono ?_; rintro x w2 ⟨L, lv, ta, tn, tc, fa, fn, fc, rfl, B2⟩))
  have b2s := B2.size
  have b3 := B2.alloc b2s (.cells #[.bool L, .int .i64 lv, .bool false, .slice ta tn tc, .slice fa fn fc] 43)
  generalize (World.alloc _ _) = W3 at *
  have hO3 := HO.out.grown (grown_of_below (row := none) b3) (by simp)
  have HB3 := Lib.hid (HBb.out.trans (b3.mono hbs))
  have c1 := hO3.cells
  have c2 := hO3.fr
  clear B2 b3 Hrq HO HBb rA
  go_wp2_with fail
  refine bodyPost_ret (v := .tuple #[.agg #[.bool false, .int .i64 0, .bool false, .slice none 0 0, .slice none 0 0], .int .u64 0, .slice none 0 0, .slice none 0 0, .int .i64 e1]) (by simp [results, Tryd.results19, go_sem, c1]) rfl ?_
  exact ⟨rfl, below_sets HB3.out (Nat.le_succ _) _ _ _ _ _⟩
/-- the results of opening -/
structure OPO (w w' : World) (x : Ending) (p d q : List UInt8) (hd : Hd) (pn e kk : Nat) : Prop where
  h : kk ≠ 0 ∧ x = .returned (.tuple #[.agg #[.bool false, .int .i64 0, .bool false, .slice none 0 0, .slice none 0 0], .int .u64 0, .slice none 0 0, .slice none 0 0, .int .i64 5]) ∨
    kk = 0 ∧ restN (q.getD 0 0).toNat ≠ 0 ∧ x = .returned (.tuple #[.agg #[.bool false, .int .i64 0, .bool false, .slice none 0 0, .slice none 0 0], .int .u64 0, .slice none 0 0, .slice none 0 0, .int .i64 4]) ∨
    kk = 0 ∧ restN (q.getD 0 0).toNat = 0 ∧ ∃ ta tn tc fa fn fc a1 c1 a2 c2, x = .returned (.tuple #[.agg #[.bool hd.long, .int .i64 hd.level, .bool (phS hd.long q), .slice ta tn tc, .slice fa fn fc], .int .u64 (pn : Int), .slice a1 d.length c1, .slice a2 (p.length - e) c2, .int .i64 0]) ∧
      BS w' ta tn tc hd.to ∧ BS w' fa fn fc hd.frm ∧ BS w' a1 d.length c1 d ∧ BS w' a2 (p.length - e) c2 (p.drop e)
  bel : Below w.heap.size w w'
set_option maxHeartbeats 4000000 in
theorem popen_ok (w : World) {a : Option Addr} {n c t e k pn kk : Nat} {ka kb kc p m q nn d : List UInt8} {hd : Hd} {largest : Nat} {some_ : Bool} (hla : largest < 18446744073709551616) (hal : ka.length = 32) (hbl : kb.length = 12) (hcl : kc.length = 32) (hp : BS w a n c p) (hK : KG w) (hn : n ≤ 1073741824) (hD : OPR ka kb kc p largest some_ hd t e m q k pn nn d kk) :
    Calls Tryd.prog 19 #[.agg ((ka ++ kb ++ kc).map B).toArray, .slice a n c, .int .u64 (largest : Int), .bool some_] w fun x w' => OPO w w' x p d q hd pn e kk := by
  obtain ⟨hk1, hk4, hte, hen, hql, -⟩ := hD.bar.le
  have hpl := BS.len hp
  have hcn := RS.max hp
  unfold maxLen at hcn
  have hpn := hD.gr.lt
  have hclt := cutS_lt q t k hk4
  have hnl : nn.length = 12 := hD.non.len.trans hbl
  obtain ⟨D, hDe⟩ : ∃ D, ka ++ kb ++ kc = D := ⟨_, rfl⟩
  have hDl : D.length = 76 := by rw [← hDe, List.length_append, List.length_append, hal, hbl, hcl]
  have Hnon := Lib.hid (fun w' => nonce_any w' (a := ka) (b := kb) (c := kc) hal hbl pn (by omega) hD.non)
  rw [hDe] at Hnon
  rw [hDe]
  have hz1 : (w.alloc (.cells (D.map B).toArray 35)).heap.size = w.heap.size + 1 := by simp
  have hA := (AB_box w 35 D).al hobj
  have hO : HB ((w.alloc (.cells (D.map B).toArray 35)).alloc hobj) (w.heap.size + 1) false 0 false (.slice none 0 0) (.slice none 0 0) := by
    have := HB_new (w.alloc (.cells (D.map B).toArray 35)); rw [hz1] at this; exact this
  have hbl' : Below w.heap.size w _ := (below_alloc w (.cells (D.map B).toArray 35)).alloc (by simp) hobj
  have hp1 := (RS.alloc hp (.cells (D.map B).toArray 35)).alloc hobj
  have hK1 := (hK.below (below_alloc w (.cells (D.map B).toArray 35))).below (below_alloc _ hobj)
  have hsc := Lib.hid (show (Tryd.prog.info? 22).map (·.size) = some (kc.map B).length by rw [List.length_map, hcl]; kernel_rfl)
  have hsa := Lib.hid (show (Tryd.prog.info? 22).map (·.size) = some (ka.map B).length by rw [List.length_map, hal]; kernel_rfl)
  have hsD := Lib.hid (show (Tryd.prog.info? 35).map (·.size) = some (D.map B).length by rw [List.length_map, hDl]; exact k76)
  have hpr := fun (w' : World) (h : w'.rangeAt w.heap.size 0 (D.map B)) => rng_parts (a := ka) (b := kb) (c := kc) (by rw [hDe]; exact h) hal hbl
  have Hpr := Lib.hid hpr
  have HD := Lib.hid hD
  obtain ⟨L, lv, tt, ff⟩ := hd
  obtain ⟨PH, hPH⟩ : ∃ PH, phS L q = PH := ⟨_, rfl⟩
  obtain ⟨C, hC⟩ : ∃ C, cutS q t k = C := ⟨_, rfl⟩
  have hgr := hD.gr
  rw [hC] at hgr hclt
  have Hgr := Lib.hid (fun w' => grow_any w' largest C k pn some_ hla (by omega) hgr hk1 hk4)
  clear hz1 hK hDe hD hpr hgr hDl
  go_enter Tryd.func19, Tryd.ntmps19
  go_upto_region 1 with (fail)
  obtain ⟨W1, hW1⟩ : ∃ W1, (w.alloc (.cells (D.map B).toArray 35)).alloc hobj = W1 := ⟨_, rfl⟩
  have hW1' := hW1
  unfold hobj at hW1'
  rw [hW1'] 
  rw [hW1] at hA hO hbl' hp1 hK1
  clear hW1 hW1'
  have l0 := hA.lt
  have l1 := hO.lt
  have hbs := hbl'.size
  have rA := (Hpr.out W1 hA.rng).2.2
  have hrq := bare_ok W1 hcl hp1 hK1 (by omega) HD.out.bar
  dsimp only at hrq
  rw [hPH] at hrq
  have Hrq := Lib.hid hrq
  have HA := Lib.hid hA
  have HO := Lib.hid hO
  have HBb := Lib.hid hbl'
  have HP := Lib.hid hp1
  have HPH := Lib.hid hPH
  clear hA hO hbl' hp1 hK1 hp hrq hPH
  go_upto_region 2 with (first
    | (refine wpList_load_mid rfl _ _ rfl _ _ rfl (kc.map B) _ rA Tryd.underlying22 rfl hsc.out ?_)
    | (go_at_call 32; refine Hrq.out.mono ?_; rintro x w2 ⟨a2, c2, ta, tn, tc, fa, fn, fc, rfl, o2, hT2, hF2, B2⟩))
  have b2s := B2.size
  have hH3 : HB (w2.alloc (.cells #[.bool L, .int .i64 lv, .bool PH, .slice ta tn tc, .slice fa fn fc] 43)) w2.heap.size L lv PH (.slice ta tn tc) (.slice fa fn fc) := heap_alloc_new w2 _
  have b3 := B2.alloc b2s (.cells #[.bool L, .int .i64 lv, .bool PH, .slice ta tn tc, .slice fa fn fc] 43)
  have HT3 := Lib.hid (RS.alloc hT2 (.cells #[.bool L, .int .i64 lv, .bool PH, .slice ta tn tc, .slice fa fn fc] 43))
  have HF3 := Lib.hid (RS.alloc hF2 (.cells #[.bool L, .int .i64 lv, .bool PH, .slice ta tn tc, .slice fa fn fc] 43))
  have o3 := RS.alloc o2.rs (.cells #[.bool L, .int .i64 lv, .bool PH, .slice ta tn tc, .slice fa fn fc] 43)
  have c2l := RS.max o2.rs
  unfold maxLen at c2l
  have c2e := RS.le o2.rs
  generalize (World.alloc _ _) = W3 at *
  obtain ⟨h3, hh3⟩ : ∃ h3, w2.heap.size = h3 := ⟨_, rfl⟩
  rw [hh3] at hH3 b2s ⊢
  have lh3 := hH3.lt
  have HA3 := Lib.hid (HA.out.bl b3 l0)
  have HO3 := Lib.hid (HO.out.grown (grown_of_below (row := none) b3) (by simp))
  have HB3 := Lib.hid (HBb.out.trans (b3.mono hbs))
  have HP3 := Lib.hid (RS.below HP.out b3 (Nat.le_refl _))
  have HH3 := Lib.hid hH3
  obtain ⟨tk, htk⟩ : ∃ tk, t + k = tk := ⟨_, rfl⟩
  have htki : (t : Int) + (k : Int) = (tk : Int) := by omega
  have htkw : IntKind.i64.wrap (tk : Int) = (tk : Int) := IntWalk.i64_in _ (by omega)
  have htke : tk + 16 ≤ e := by omega
  obtain ⟨a5, h5, hsl⟩ := runB_lh o3 t (t + k) (by omega) (by omega)
  obtain ⟨a6, h6, hsl6⟩ := runB_l o3 tk (by omega)
  obtain ⟨h7, hsl7⟩ := runB_h o3 tk (by omega)
  rw [Nat.add_sub_cancel_left] at h5 hsl
  have hC' : beNat ((q.drop t).take k) 0 = C := hC
  have Hnum := Lib.hid (number_any W3 h5 hk4)
  rw [hC'] at Hnum
  have hopn := HD.out.op
  rw [htk] at hsl hopn
  have H6 := Lib.hid h6
  have H7 := Lib.hid h7
  have HQ3 := Lib.hid o3
  have Hop := Lib.hid hopn
  clear B2 b3 Hrq HA HO HBb HP rA hT2 hF2 o2 o3 h5 h6 h7 hC hC' htk hH3 hh3 hopn
  go_upto_region 5 with (first
    | (go_at_call 34; refine Hnum.out.mono ?_; rintro x w5 ⟨rfl, rfl⟩)
    | (go_at_call 33; refine (Hgr.out _).mono ?_; rintro x w5 ⟨rfl, rfl⟩))
  have rD : W3.drew.rangeAt w.heap.size 0 (D.map B) := HA3.out.rng
  have lD : w.heap.size < W3.heap.size := HA3.out.lt
  have hu32 := Tryd.underlying22
  have hu76 := Tryd.underlying35
  have hsa' := hsa.out
  have hsD' := hsD.out
  have HQ4 := Lib.hid (RS.drew HQ3.out)
  have H6d := Lib.hid (RS.drew H6.out)
  have H7d := Lib.hid (RS.drew H7.out)
  clear Hnum Hgr hclt H6 H7
  refine wp_region_held_drew (S := fun w' => w'.rangeAt w.heap.size 0 (D.map B)) (by kernel_rfl) rD (fun hHeld => ?_)
  refine wpAnyH_take (i := 0) (v := .pointer (some ⟨w.heap.size, 0, none⟩)) rfl (by kernel_rfl) (by kernel_rfl) (by kernel_rfl) (fun _ _ _ h => h) (Or.inl ⟨by rfl, fun w h => by go_simp⟩) hHeld ?_
  try simp only [Act.put, List.getElem_toArray, List.getElem_cons_zero, List.setIfInBounds_toArray, List.set_cons_zero, List.set_cons_succ]
  refine wpAnyH_take (i := 1) rfl (by kernel_rfl) (by kernel_rfl) (by kernel_rfl) (fun _ _ _ h => h) (yieldsIf_load_mid (by rfl) _ _ rfl _ _ rfl _ _ (fun w' h => (Hpr.out w' h).1) hu32 rfl hsa') hHeld ?_
  try simp only [Act.put, List.getElem_toArray, List.getElem_cons_succ, List.getElem_cons_zero, List.setIfInBounds_toArray, List.set_cons_zero, List.set_cons_succ]
  refine wpAnyH_take (i := 2) rfl (by kernel_rfl) (by kernel_rfl) (by kernel_rfl) (fun _ _ _ h => h) (yieldsIf_load_mid (by rfl) _ _ rfl _ _ rfl _ _ (fun w' h => h) hu76 rfl hsD') hHeld ?_
  try simp only [Act.put, List.getElem_toArray, List.getElem_cons_succ, List.getElem_cons_zero, List.setIfInBounds_toArray, List.set_cons_zero, List.set_cons_succ]
  refine wpAnyH_take (i := 3) (v := .int .u64 (pn : Int)) rfl (by kernel_rfl) (by kernel_rfl) (by kernel_rfl) (fun _ _ _ h => h) (Or.inl ⟨by rfl, fun w h => by go_simp⟩) hHeld ?_
  try simp only [Act.put, List.getElem_toArray, List.getElem_cons_succ, List.getElem_cons_zero, List.setIfInBounds_toArray, List.set_cons_zero, List.set_cons_succ]
  refine wpAnyH_take (i := 5) (v := .slice a2 e c2) rfl (by kernel_rfl) (by kernel_rfl) (by kernel_rfl) (fun _ _ _ h => h) (Or.inl ⟨by rfl, fun w h => by go_simp⟩) hHeld ?_
  try simp only [Act.put, List.getElem_toArray, List.getElem_cons_succ, List.getElem_cons_zero, List.setIfInBounds_toArray, List.set_cons_zero, List.set_cons_succ]
  refine wpAnyH_take (i := 6) (v := .int .i64 (t : Int)) rfl (by kernel_rfl) (by kernel_rfl) (by kernel_rfl) (fun _ _ _ h => h) (Or.inl ⟨by rfl, fun w h => by go_simp⟩) hHeld ?_
  try simp only [Act.put, List.getElem_toArray, List.getElem_cons_succ, List.getElem_cons_zero, List.setIfInBounds_toArray, List.set_cons_zero, List.set_cons_succ]
  refine wpAnyH_take (i := 7) (v := .int .i64 (k : Int)) rfl (by kernel_rfl) (by kernel_rfl) (by kernel_rfl) (fun _ _ _ h => h) (Or.inl ⟨by rfl, fun w h => by go_simp⟩) hHeld ?_
  try simp only [Act.put, List.getElem_toArray, List.getElem_cons_succ, List.getElem_cons_zero, List.setIfInBounds_toArray, List.set_cons_zero, List.set_cons_succ]
  refine wpAnyH_take (i := 8) (v := .int .i64 (tk : Int)) rfl (by kernel_rfl) (by kernel_rfl) (by kernel_rfl) (fun _ _ _ h => h) (Or.inl ⟨by rfl, fun w h => by go_simp⟩) hHeld ?_
  try simp only [Act.put, List.getElem_toArray, List.getElem_cons_succ, List.getElem_cons_zero, List.setIfInBounds_toArray, List.set_cons_zero, List.set_cons_succ]
  refine wpAnyH_take (i := 9) (v := .slice a6 (e - tk) (c2 - tk)) rfl (by kernel_rfl) (by kernel_rfl) (by kernel_rfl) (fun _ _ _ h => h) (Or.inl ⟨by rfl, fun w h => by go_simp⟩) hHeld ?_
  try simp only [Act.put, List.getElem_toArray, List.getElem_cons_succ, List.getElem_cons_zero, List.setIfInBounds_toArray, List.set_cons_zero, List.set_cons_succ]
  refine wpAnyH_take (i := 10) (v := .slice a2 e c2) rfl (by kernel_rfl) (by kernel_rfl) (by kernel_rfl) (fun _ _ _ h => h) (Or.inl ⟨by rfl, fun w h => by go_simp⟩) hHeld ?_
  try simp only [Act.put, List.getElem_toArray, List.getElem_cons_succ, List.getElem_cons_zero, List.setIfInBounds_toArray, List.set_cons_zero, List.set_cons_succ]
  refine wpAnyH_take (i := 11) (v := .int .i64 (t : Int)) rfl (by kernel_rfl) (by kernel_rfl) (by kernel_rfl) (fun _ _ _ h => h) (Or.inl ⟨by rfl, fun w h => by go_simp⟩) hHeld ?_
  try simp only [Act.put, List.getElem_toArray, List.getElem_cons_succ, List.getElem_cons_zero, List.setIfInBounds_toArray, List.set_cons_zero, List.set_cons_succ]
  refine wpAnyH_take (i := 12) (v := .int .i64 (k : Int)) rfl (by kernel_rfl) (by kernel_rfl) (by kernel_rfl) (fun _ _ _ h => h) (Or.inl ⟨by rfl, fun w h => by go_simp⟩) hHeld ?_
  try simp only [Act.put, List.getElem_toArray, List.getElem_cons_succ, List.getElem_cons_zero, List.setIfInBounds_toArray, List.set_cons_zero, List.set_cons_succ]
  refine wpAnyH_take (i := 13) (v := .int .i64 (tk : Int)) rfl (by kernel_rfl) (by kernel_rfl) (by kernel_rfl) (fun _ _ _ h => h) (Or.inl ⟨by rfl, fun w h => by go_simp⟩) hHeld ?_
  try simp only [Act.put, List.getElem_toArray, List.getElem_cons_succ, List.getElem_cons_zero, List.setIfInBounds_toArray, List.set_cons_zero, List.set_cons_succ]
  refine wpAnyH_take (i := 14) (v := .slice a2 tk c2) rfl (by kernel_rfl) (by kernel_rfl) (by kernel_rfl) (fun _ _ _ h => h) (Or.inl ⟨by rfl, fun w h => by go_simp⟩) hHeld ?_
  try simp only [Act.put, List.getElem_toArray, List.getElem_cons_succ, List.getElem_cons_zero, List.setIfInBounds_toArray, List.set_cons_zero, List.set_cons_succ]
  refine wpAnyH_ready (rs := [4]) (by kernel_rfl) (by simp) (AllReadyH.cons rfl (fun K hK => ?_) AllReadyH.nil)
  go_simp
  go_at_call 36
  refine (Hnon.out _).mono ?_
  rintro x w5 ⟨rfl, B5⟩
  have b5 : Below W3.drew.heap.size W3.drew w5 := B5
  have h65 := RS.below H6d.out b5 (Nat.le_refl _)
  have h75 := RS.below H7d.out b5 (Nat.le_refl _)
  have Hopn := Lib.hid (open_any w5 hal hnl h65 h75 (by omega) Hop.out)
  refine hK.out _ _ (rng_bel rD b5 lD) (fun hHeld => ?_)
  clear hK K h65 h75
  try simp only [Act.put, List.getElem_toArray, List.getElem_cons_succ, List.getElem_cons_zero, List.setIfInBounds_toArray, List.set_cons_zero, List.set_cons_succ]
  refine wpAnyH_ready (rs := [15]) (by kernel_rfl) (by simp) (AllReadyH.cons rfl (fun K hK => ?_) AllReadyH.nil)
  go_simp
  go_at_call 35
  refine Hopn.out.mono ?_
  rintro x w6 ⟨a8, c8, rfl, o8, B6⟩
  have b6 := btr b5 B6
  refine hK.out _ _ (rng_bel rD b6 lD) (fun hHeld => ?_)
  clear hK K Hopn
  try simp only [Act.put, List.getElem_toArray, List.getElem_cons_succ, List.getElem_cons_zero, List.setIfInBounds_toArray, List.set_cons_zero, List.set_cons_succ]
  refine wpAnyH_take (i := 16) (v := .tuple #[.slice a8 d.length c8, .int .i64 (kk : Int)]) rfl (by kernel_rfl) (by kernel_rfl) (by kernel_rfl) (fun _ _ _ h => h) (Or.inl ⟨by rfl, fun w h => by go_simp⟩) hHeld ?_
  try simp only [Act.put, List.getElem_toArray, List.getElem_cons_succ, List.getElem_cons_zero, List.setIfInBounds_toArray, List.set_cons_zero, List.set_cons_succ]
  refine wpAnyH_take (i := 17) (v := .slice a8 d.length c8) rfl (by kernel_rfl) (by kernel_rfl) (by kernel_rfl) (fun _ _ _ h => h) (Or.inl ⟨by rfl, fun w h => by go_simp⟩) hHeld ?_
  try simp only [Act.put, List.getElem_toArray, List.getElem_cons_succ, List.getElem_cons_zero, List.setIfInBounds_toArray, List.set_cons_zero, List.set_cons_succ]
  refine wpAnyH_take (i := 18) (v := .int .i64 (kk : Int)) rfl (by kernel_rfl) (by kernel_rfl) (by kernel_rfl) (fun _ _ _ h => h) (Or.inl ⟨by rfl, fun w h => by go_simp⟩) hHeld ?_
  try simp only [Act.put, List.getElem_toArray, List.getElem_cons_succ, List.getElem_cons_zero, List.setIfInBounds_toArray, List.set_cons_zero, List.set_cons_succ]
  refine wpAnyH_take (i := 19) (v := .slice a8 d.length c8) rfl (by kernel_rfl) (by kernel_rfl) (by kernel_rfl) (fun _ _ _ h => h) (Or.inl ⟨by rfl, fun w h => by go_simp⟩) hHeld ?_
  try simp only [Act.put, List.getElem_toArray, List.getElem_cons_succ, List.getElem_cons_zero, List.setIfInBounds_toArray, List.set_cons_zero, List.set_cons_succ]
  refine wpAnyH_take (i := 20) (v := .int .i64 (kk : Int)) rfl (by kernel_rfl) (by kernel_rfl) (by kernel_rfl) (fun _ _ _ h => h) (Or.inl ⟨by rfl, fun w h => by go_simp⟩) hHeld ?_
  try simp only [Act.put, List.getElem_toArray, List.getElem_cons_succ, List.getElem_cons_zero, List.setIfInBounds_toArray, List.set_cons_zero, List.set_cons_succ]
  refine wpAnyH_done (by kernel_rfl) ?_ _
  try simp only [Act.put, List.getElem_toArray, List.getElem_cons_succ, List.getElem_cons_zero]
  have z6 := b6.size
  have hO6 := HO3.out.drew.grown (grown_of_below (row := none) b6) (by simp)
  have hH6 := HH3.out.drew.grown (grown_of_below (row := none) b6) (by simp)
  have HT6 := Lib.hid (RS.below (RS.drew HT3.out) b6 (Nat.le_refl _))
  have HF6 := Lib.hid (RS.below (RS.drew HF3.out) b6 (Nat.le_refl _))
  have HP6 := Lib.hid (RS.below (RS.drew HP3.out) b6 (Nat.le_refl _))
  have HQ6 := Lib.hid (RS.below HQ4.out b6 (Nat.le_refl _))
  have HB6 := Lib.hid (HB3.out.drew.trans (b6.mono HB3.out.drew.size))
  have H8 := Lib.hid o8.rs
  have HO6 := Lib.hid hO6
  have HH6 := Lib.hid hH6
  clear b5 b6 B5 B6 o8 rD HQ3 HQ4 HO3 HB3 HP3 HA3 HT3 HF3 HH3 H6d H7d Hop hHeld
  by_cases hkk : kk = 0
  · subst hkk
    obtain ⟨b7, hb7⟩ : ∃ b7, q[0]? = some b7 := ⟨_, List.getElem?_eq_getElem (by omega)⟩
    have hqd : q.getD 0 0 = b7 := by rw [List.getD_eq_getElem?_getD, hb7]; rfl
    have hb7l := b7.toNat_lt
    obtain ⟨g2, o2', rfl, hc2⟩ := BS.at_ HQ6.out (by omega)
    have q0 := hc2 0 b7 hb7
    rw [Nat.add_zero] at q0
    have he0 : 0 < e := by omega
    obtain ⟨nb, hnb⟩ : ∃ nb, b7.toNat = nb := ⟨_, rfl⟩
    rw [hnb] at q0 hb7l
    have hr0 := restN_zero nb hb7l
    have e1 := bits_x1 nb hb7l
    have e2 := bits_x2 nb hb7l
    have e3 := bits_x3 nb hb7l
    have Hbits := Lib.hid (fun w => bits_any w nb hb7l)
    have hkl := bitsN_lt nb
    obtain ⟨K, hKK⟩ : ∃ K, bitsN nb = K := ⟨_, rfl⟩
    obtain ⟨x1, hx1⟩ : ∃ x1, x1N nb = x1 := ⟨_, rfl⟩
    obtain ⟨x2, hx2⟩ : ∃ x2, x2N nb = x2 := ⟨_, rfl⟩
    obtain ⟨x3, hx3⟩ : ∃ x3, x3N nb = x3 := ⟨_, rfl⟩
    rw [hKK] at e1 Hbits
    rw [hx1] at e1 e2
    rw [hx2] at e2 e3
    rw [hx3] at e3 hr0
    have Hqr : Hid (restN (q.getD 0 0).toNat = restN nb) := Lib.hid (by rw [hqd, hnb])
    have Hr0 := Lib.hid hr0
    clear hc2 hb7 hqd hnb hKK hx1 hx2 hx3 hr0
    obtain ⟨y, y2, m4, hy1, hy2, hy3, hy4, hy5, hy6, hy7⟩ : ∃ y y2 m4 : Int, (nb : Int) / 128 = y ∧ 1 - y = y2 ∧ 4 * y2 = m4 ∧ 0 ≤ y2 ∧ y2 ≤ 1 ∧ 0 ≤ y ∧ (if nb < 128 then (4 : Int) else 0) = m4 := by
      by_cases h : nb < 128
      · exact ⟨0, 1, 4, by omega, by omega, by omega, by omega, by omega, by omega, by rw [if_pos h]⟩
      · exact ⟨1, 0, 0, by omega, by omega, by omega, by omega, by omega, by omega, by rw [if_neg h]⟩
    rw [hy7] at e3
    clear hy7
    go_upto_region 8 with (fail)
    go_quiet (first | (go_at_call 37; with_reducible exact Calls.quiet_of_same ((Hbits.out _).mono fun e w' h => ⟨h.1, h.2.symm⟩)))
    clear q0 e1 e2 e3 hy1 hy2 hy3
    have hO7 : HB (w6.drewN nq) (w.heap.size + 1) false 0 false (.slice none 0 0) (.slice none 0 0) := HO6.out
    have hH7 : HB (w6.drewN nq) h3 L lv PH (.slice ta tn tc) (.slice fa fn fc) := HH6.out
    have HT7 := Lib.hid (RS.drewN HT6.out nq)
    have HF7 := Lib.hid (RS.drewN HF6.out nq)
    have HP7 := Lib.hid (RS.drewN HP6.out nq)
    have H87 := Lib.hid (RS.drewN H8.out nq)
    have HB7 := Lib.hid (below_drewN HB6.out nq)
    clear HT6 HF6 HP6 H8 HB6 HO6 HH6 HQ6 Hbits
    generalize (World.drewN _ _) = W7 at *
    by_cases hx0 : x3 = 0
    · have Hrs := Lib.hid (Hr0.out.1 hx0)
      subst hx0
      clear Hr0
      obtain ⟨a9, h9, hsl9⟩ := runB_l HP7.out e (by omega)
      have Hcl := Lib.hid (clone_any W7.drew (RS.drew h9) (by omega))
      obtain ⟨r, hr⟩ : ∃ r, n - e = r := ⟨_, rfl⟩
      rw [hr] at Hcl hsl9
      have Hr := Lib.hid hr
      have HO7 := Lib.hid hO7
      have HH7 := Lib.hid hH7
      clear h9 hr hO7 hH7
      go_upto_region 10 with (fail)
      have hH7d := HH7.out.drew
      have hl3 : h3 < W7.drew.heap.size := hH7d.lt
      refine wp_region_noPanic ?_
      refine wp_region_held_drew (S := fun w' => HC5 w' h3 L lv PH (.slice ta tn tc) (.slice fa fn fc)) (by kernel_rfl) hH7d.cells (fun hHeld => ?_)
      refine wpAnyH_take (i := 0) (v := .agg #[.bool L, .int .i64 lv, .bool PH, .slice ta tn tc, .slice fa fn fc]) rfl (by kernel_rfl) (by kernel_rfl) (by kernel_rfl) (fun _ _ _ h => h) (Or.inl ⟨by rfl, fun w h => by unfold HC5 at h; go_simp⟩) hHeld ?_
      try simp only [Act.put, List.getElem_toArray, List.getElem_cons_zero, List.setIfInBounds_toArray, List.set_cons_zero, List.set_cons_succ]
      refine wpAnyH_take (i := 1) (v := .int .u64 (pn : Int)) rfl (by kernel_rfl) (by kernel_rfl) (by kernel_rfl) (fun _ _ _ h => h) (Or.inl ⟨by rfl, fun w h => by go_simp⟩) hHeld ?_
      try simp only [Act.put, List.getElem_toArray, List.getElem_cons_succ, List.getElem_cons_zero, List.setIfInBounds_toArray, List.set_cons_zero, List.set_cons_succ]
      refine wpAnyH_take (i := 2) (v := .slice a8 d.length c8) rfl (by kernel_rfl) (by kernel_rfl) (by kernel_rfl) (fun _ _ _ h => h) (Or.inl ⟨by rfl, fun w h => by go_simp⟩) hHeld ?_
      try simp only [Act.put, List.getElem_toArray, List.getElem_cons_succ, List.getElem_cons_zero, List.setIfInBounds_toArray, List.set_cons_zero, List.set_cons_succ]
      refine wpAnyH_take (i := 3) (v := .slice a n c) rfl (by kernel_rfl) (by kernel_rfl) (by kernel_rfl) (fun _ _ _ h => h) (Or.inl ⟨by rfl, fun w h => by go_simp⟩) hHeld ?_
      try simp only [Act.put, List.getElem_toArray, List.getElem_cons_succ, List.getElem_cons_zero, List.setIfInBounds_toArray, List.set_cons_zero, List.set_cons_succ]
      refine wpAnyH_take (i := 4) (v := .slice (some ⟨g2, o2', none⟩) e c2) rfl (by kernel_rfl) (by kernel_rfl) (by kernel_rfl) (fun _ _ _ h => h) (Or.inl ⟨by rfl, fun w h => by go_simp⟩) hHeld ?_
      try simp only [Act.put, List.getElem_toArray, List.getElem_cons_succ, List.getElem_cons_zero, List.setIfInBounds_toArray, List.set_cons_zero, List.set_cons_succ]
      refine wpAnyH_take (i := 5) (v := .int .i64 (e : Int)) rfl (by kernel_rfl) (by kernel_rfl) (by kernel_rfl) (fun _ _ _ h => h) (Or.inl ⟨by rfl, fun w h => by go_simp⟩) hHeld ?_
      try simp only [Act.put, List.getElem_toArray, List.getElem_cons_succ, List.getElem_cons_zero, List.setIfInBounds_toArray, List.set_cons_zero, List.set_cons_succ]
      refine wpAnyH_take (i := 6) (v := .slice a9 r (c - e)) rfl (by kernel_rfl) (by kernel_rfl) (by kernel_rfl) (fun _ _ _ h => h) (Or.inl ⟨by rfl, fun w h => by go_simp⟩) hHeld ?_
      try simp only [Act.put, List.getElem_toArray, List.getElem_cons_succ, List.getElem_cons_zero, List.setIfInBounds_toArray, List.set_cons_zero, List.set_cons_succ]
      refine wpAnyH_ready (rs := [7]) (by kernel_rfl) (by simp) (AllReadyH.cons rfl (fun K hK => ?_) AllReadyH.nil)
      go_simp
      go_at_call 38
      refine Hcl.out.mono ?_
      rintro x w8 ⟨a10, c10, rfl, o10, B8⟩
      have b8 : Below W7.drew.heap.size W7.drew w8 := B8
      refine hK.out _ _ (HC5.bl hHeld b8 hl3) (fun hHeld => ?_)
      clear hK K
      try simp only [Act.put, List.getElem_toArray, List.getElem_cons_succ, List.getElem_cons_zero, List.setIfInBounds_toArray, List.set_cons_zero, List.set_cons_succ]
      have hO8 := HO7.out.drew.grown (grown_of_below (row := none) b8) (by simp)
      have hH8 := hH7d.grown (grown_of_below (row := none) b8) (by simp)
      refine wpAnyH_ready (rs := [8]) (by kernel_rfl) (by simp) (AllReadyH.cons rfl (fun K hK => ?_) AllReadyH.nil)
      refine S_storeH rfl _ _ rfl rfl rfl rfl rfl hO8 ?_
      intro w9 hO9 hg9
      refine hK.out _ _ (HB.grown hH8 hg9 (by simp; omega)).cells (fun hHeld => ?_)
      clear hK K
      try simp only [Act.put, List.getElem_toArray, List.getElem_cons_succ, List.getElem_cons_zero]
      refine wpAnyH_ready (rs := [9]) (by kernel_rfl) (by simp) (AllReadyH.cons rfl (fun K hK => ?_) AllReadyH.nil)
      go_simp
      refine hK.out _ _ hHeld (fun hHeld => ?_)
      clear hK K
      try simp only [Act.put, List.getElem_toArray, List.getElem_cons_succ, List.getElem_cons_zero, List.setIfInBounds_toArray, List.set_cons_zero, List.set_cons_succ]
      refine wpAnyH_ready (rs := [10]) (by kernel_rfl) (by simp) (AllReadyH.cons rfl (fun K hK => ?_) AllReadyH.nil)
      go_simp
      refine hK.out _ _ hHeld (fun hHeld => ?_)
      clear hK K
      try simp only [Act.put, List.getElem_toArray, List.getElem_cons_succ, List.getElem_cons_zero, List.setIfInBounds_toArray, List.set_cons_zero, List.set_cons_succ]
      refine wpAnyH_ready (rs := [11]) (by kernel_rfl) (by simp) (AllReadyH.cons rfl (fun K hK => ?_) AllReadyH.nil)
      go_simp
      refine hK.out _ _ hHeld (fun hHeld => ?_)
      clear hK K
      try simp only [Act.put, List.getElem_toArray, List.getElem_cons_succ, List.getElem_cons_zero, List.setIfInBounds_toArray, List.set_cons_zero, List.set_cons_succ]
      refine wpAnyH_ready (rs := [12]) (by kernel_rfl) (by simp) (AllReadyH.cons rfl (fun K hK => ?_) AllReadyH.nil)
      go_simp
      refine hK.out _ _ hHeld (fun hHeld => ?_)
      clear hK K
      try simp only [Act.put, List.getElem_toArray, List.getElem_cons_succ, List.getElem_cons_zero, List.setIfInBounds_toArray, List.set_cons_zero, List.set_cons_succ]
      refine wpAnyH_done (by kernel_rfl) ?_ _
      refine NoPanic.normal ?_
      try simp only [Act.put, List.getElem_toArray, List.getElem_cons_succ, List.getElem_cons_zero]
      have c9 := hO9.cells
      have hT9 := BS.grownHB (RS.below (RS.drew HT7.out) b8 (Nat.le_refl _)) hO8 hg9
      have hF9 := BS.grownHB (RS.below (RS.drew HF7.out) b8 (Nat.le_refl _)) hO8 hg9
      have h89 := BS.grownHB (RS.below (RS.drew H87.out) b8 (Nat.le_refl _)) hO8 hg9
      have h109 := BS.grownHB o10.rs hO8 hg9
      have hb8 := HB7.out.drew.trans (b8.mono HB7.out.drew.size)
      have hb9 := hb8.grown hg9 hb8.size (fun k hk => by cases hk; exact Nat.le_succ _)
      have HT9 := Lib.hid hT9
      have HF9 := Lib.hid hF9
      have H89 := Lib.hid h89
      have H109 := Lib.hid h109
      have HB9 := Lib.hid hb9
      clear hT9 hF9 h89 h109 hb8 hb9 hHeld b8 B8 o10 hO8 hH8 hg9
      go_wp2_with fail
      refine bodyPost_ret (v := .tuple #[.agg #[.bool L, .int .i64 lv, .bool PH, .slice ta tn tc, .slice fa fn fc], .int .u64 (pn : Int), .slice a8 d.length c8, .slice a10 r c10, .int .i64 0]) (by simp [results, Tryd.results19, go_sem, c9]) rfl ?_
      have hrp : p.length - e = r := by rw [hpl]; exact Hr.out
      refine ⟨.inr (.inr ⟨rfl, by rw [Hqr.out]; exact Hrs.out, ta, tn, tc, fa, fn, fc, a8, c8, a10, c10, ?_, HT9.out, HF9.out, H89.out, ?_⟩), HB9.out⟩
      · rw [hrp, HPH.out]
      · rw [hrp]; exact H109.out
    · have hx3' : ((x3 : Int) != 0) = true := by simp; omega
      have Hrs := Lib.hid (fun h => hx0 (Hr0.out.2 h))
      clear Hr0 hx0
      have c1 := hO7.cells
      have c2' := hO7.fr
      go_wp2_with fail
      refine bodyPost_ret (v := .tuple #[.agg #[.bool false, .int .i64 0, .bool false, .slice none 0 0, .slice none 0 0], .int .u64 0, .slice none 0 0, .slice none 0 0, .int .i64 4]) (by simp [results, Tryd.results19, go_sem, c1]) rfl ?_
      exact ⟨.inr (.inl ⟨rfl, by rw [Hqr.out]; exact Hrs.out, rfl⟩), below_sets HB7.out (Nat.le_succ _) _ _ _ _ _⟩
  · have hkk' : ((kk : Int) != 0) = true := by simp; omega
    have c1 := HO6.out.cells
    have c2 := HO6.out.fr
    go_wp2_with fail
    refine bodyPost_ret (v := .tuple #[.agg #[.bool false, .int .i64 0, .bool false, .slice none 0 0, .slice none 0 0], .int .u64 0, .slice none 0 0, .slice none 0 0, .int .i64 5]) (by simp [results, Tryd.results19, go_sem, c1]) rfl ?_
    exact ⟨.inl ⟨hkk, rfl⟩, below_sets HB6.out (Nat.le_succ _) _ _ _ _ _⟩
end Go.Proofs.YtlncnjcbgfeaoaaDoor

/- parcel.Close, for any head that head.Bytes writes. -/
set_option maxRecDepth 100000
set_option linter.unusedVariables false
namespace Go.Proofs.YtlncnjcbgfeaoaaDoor
open Go.RowKit
/-- a packet closed: the head's bytes H, behind them what is sealed, both masked -/
structure CPR (ka kb kc H plain : List UInt8) (S pn : Nat) (nn cl m R : List UInt8) : Prop where
  non : NON kb pn nn
  hc : CL ka nn plain H cl
  mm : MSK kc (((H ++ cl).drop (H.length - S + 4)).take 16) m
  hq : unS (H ++ cl) m (H.length - S) S = R
theorem CPR_ex (ka kb kc H plain : List UInt8) (S pn : Nat) : ∃ nn cl m R, CPR ka kb kc H plain S pn nn cl m R := by
  obtain ⟨nn, hn⟩ := NON_ex kb pn
  obtain ⟨cl, hc⟩ := CL_ex ka nn plain H
  obtain ⟨m, hm⟩ := MSK_ex kc (((H ++ cl).drop (H.length - S + 4)).take 16)
  exact ⟨nn, cl, m, _, hn, hc, hm, rfl⟩
theorem CPR.len {ka kb kc H plain nn cl m R : List UInt8} {S pn : Nat} (h : CPR ka kb kc H plain S pn nn cl m R) : R.length = H.length + plain.length + 16 := by
  rw [← h.hq, unS, unJ_len, List.length_set, List.length_append, h.hc.len]; omega
theorem JW.below' {w w' : World} {base : Nat} {e : TypeId} {a : Option Addr} {n c : Nat} {vs : List Value} (h : JW w base e a n c vs) (hb : Below w.heap.size w w') : JW w' base e a n c vs :=
  h.keepb fun ad _ hl => hb.block _ hl
section
variable {P : Program} {w : World} {ops : Array Oper} {o : Oper} {f : Act} {K : Act → World → Prop} {Q : Exit → Act → World → Prop} {E : Prop} {t e : TypeId} {zero : Value} {z bytes : Nat}
/-- append of a slice as a step of a region that draws its order: onto a row of the call's own, or one without spare room -/
theorem S_append_J (ty : STy P t e zero 1 bytes) {base : Nat} {a : Option Addr} {n c : Nat} {vs : List Value} (hs : JW w base e a n c vs)
    {b : Option Addr} {m d : Nat} {us : List Value} (hx : RS w 1 b m d us) (hm : 0 < m) (s x : Operand) (hg : Region.wanted o (yielded ops f.tmps) = true)
    (hop : o.op = .call { callee := .builtin .append, args := #[s, x], argTypes := #[t, t] })
    (es : f.eval s = .slice a n c) (ex : f.eval x = .slice b m d) (hbytes : (n + m) * bytes ≤ 140737488355328) (h63 : n + m ≤ maxLen) (hbase : base ≤ w.heap.size)
    (h : ∀ a' c' w', OW w' base e 1 a' (n + m) c' (vs ++ us) → w.grownBy w' (a.map (·.block)) → K (f.put o.dst (.slice a' (n + m) c')) w') : if Region.wanted o (yielded ops f.tmps) = true then Oper.wp P o f w K Q else E := by
  rw [if_pos hg]
  obtain ⟨i, hi, hz0, hz1, hz2⟩ := info_parts ty.info
  have hone : ∀ v ∈ vs ++ us, v.oneCell' = true := by
    intro v hv; rcases List.mem_append.1 hv with hv | hv
    · exact hs.rs.one v hv
    · exact hx.one v hv
  have hrow : Value.ownBlock (.slice a n c) = a.map (·.block) := by cases a <;> rfl
  cases b with
  | none => have := hx.nil_inv; omega
  | some bd =>
    have howned : ∀ hs' : OW w base e 1 a n c vs, Oper.wp P o f w K Q := fun hs' =>
      wp_append_own w s x t hop base e i zero 1 bytes ty.und hi hz0 hz1 hz2 ty.zs ty.zpos (.slice a n c) n vs es hs'.1 bd m d us ex hx.len (hx.cells rfl) hx.one h63 hbytes hbase fun v' w' h1 h2 _ => by
        rw [hrow] at h2
        rcases h1.2 with ⟨rfl, h3⟩ | ⟨g, cap, cur, rfl, _⟩
        · have := h none 0 w' ⟨by rw [h3] at h1 ⊢; exact h1, hone⟩ h2
          rw [h3] at this; exact this
        · exact h _ _ w' ⟨h1, hone⟩ h2
    rcases hs with hs | ⟨h1, rfl, h2⟩
    · exact howned hs
    · cases a with
      | none =>
        obtain ⟨rfl, _, rfl⟩ := h1.nil_inv
        exact howned (OW_nil w base e 1)
      | some ad =>
        have hz1' := hz1
        have h63' : ((n + m : Nat) : Int) ≤ 9223372036854775807 := by unfold maxLen at h63; omega
        have hrun := run_append_grow (P := P) w t o.type e i zero ty.und hi hz0 ad n n vs (by rw [hz1]; exact h1.len) (h1.cells rfl) bd m d us (by rw [hz1]; exact hx.len) (hx.cells rfl) (by omega) h63' (growslice_fits (by omega) (by rw [hz2]; exact hbytes))
        unfold Oper.wp
        simp only [execOp, hop, resolve, invoke, builtin, Sem.run_bind, Sem.run_pure, Result.andThen_ok, List.map_toArray, List.map_cons, List.map_nil, es, ex, hrun]
        have hge := grownCap_ge w (n + m) n e
        refine h _ _ _ (OW.mk' w.heap.size _ hbase (heap_alloc_new w.drew _) hge (grownCap_le_maxLen w (n + m) n e h63) ?_ ?_ hone) ⟨rfl, rfl, rfl, by simp, fun k hk _ => Below.heap_alloc w.drew _ k hk⟩
        · simp only [Array.size_append, List.size_toArray, size_zeroCells, h1.len, hx.len, ty.zs, Nat.mul_one]
          omega
        · simp only [Array.toList_append, List.append_assoc]
          rw [← List.append_assoc, show (n + m) * 1 = (vs ++ us).length by rw [List.length_append, h1.len, hx.len]; omega]
          exact List.take_left
end
/-- what head.Bytes hands back -/
def HBy (w : World) (hv : Value) (pn S L : Nat) (H : List UInt8) : Prop :=
  Calls Tryd.prog 45 #[hv, .int .u64 (pn : Int), .int .i64 (S : Int), .int .i64 (L : Int)] w fun e w' => ∃ a' c', e = .returned (.tuple #[.slice a' H.length c', .int .i64 0]) ∧ JW w' w.heap.size 5 a' H.length c' (H.map B) ∧ Below w.heap.size w w'
set_option maxHeartbeats 8000000 in
theorem pclose_any (w : World) {a : Option Addr} {n c S pn : Nat} {ka kb kc plain H nn cl m R : List UInt8} {l : Bool} {lv : Int} {ph : Bool} {ta fa : Option Addr} {tn tc fn fc : Nat} (hal : ka.length = 32) (hbl : kb.length = 12) (hcl : kc.length = 32) (hp : BS w a n c plain) (hn : n ≤ 65536) (hpn : pn < 4611686018427387904) (h1 : 1 ≤ S) (h4 : S ≤ 4) (hs4 : 4 ≤ n + S) (hHl : S + 1 ≤ H.length) (hHu : H.length ≤ 1000)
    (hB : ∀ w', Below w.heap.size w w' → HBy w' (.agg #[.bool l, .int .i64 lv, .bool ph, .slice ta tn tc, .slice fa fn fc]) pn S (n + 16) H) (hD : CPR ka kb kc H plain S pn nn cl m R) :
    Calls Tryd.prog 25 #[.agg ((ka ++ kb ++ kc).map B).toArray, .agg #[.bool l, .int .i64 lv, .bool ph, .slice ta tn tc, .slice fa fn fc], .int .u64 (pn : Int), .int .i64 (S : Int), .slice a n c] w fun x w' => ∃ a' c', x = .returned (.tuple #[.slice a' R.length c', .int .i64 0]) ∧ OW w' w.heap.size 5 1 a' R.length c' (R.map B) ∧ Below w.heap.size w w' := by
  have hpl := BS.len hp
  have hRl := hD.len
  have hcll := hD.hc.len
  have hml := hD.mm.len
  have hnl : nn.length = 12 := hD.non.len.trans hbl
  obtain ⟨D, hDe⟩ : ∃ D, ka ++ kb ++ kc = D := ⟨_, rfl⟩
  have hDl : D.length = 76 := by rw [← hDe, List.length_append, List.length_append, hal, hbl, hcl]
  have Hnon := Lib.hid (fun w' => nonce_any w' (a := ka) (b := kb) (c := kc) hal hbl pn (by omega) hD.non)
  rw [hDe] at Hnon ⊢
  obtain ⟨o1, ho1⟩ : ∃ o1 : Obj, o1 = .cells #[.bool l, .int .i64 lv, .bool ph, .slice ta tn tc, .slice fa fn fc] 43 := ⟨_, rfl⟩
  have hz1 : (w.alloc (.cells (D.map B).toArray 35)).heap.size = w.heap.size + 1 := by simp
  have hA := (AB_box w 35 D).al o1
  have hH : HB ((w.alloc (.cells (D.map B).toArray 35)).alloc o1) (w.heap.size + 1) l lv ph (.slice ta tn tc) (.slice fa fn fc) := by
    rw [ho1, ← hz1]; exact heap_alloc_new _ _
  have hbl' : Below w.heap.size w _ := (below_alloc w (.cells (D.map B).toArray 35)).alloc (by simp) o1
  have hp1 := (RS.alloc hp (.cells (D.map B).toArray 35)).alloc o1
  rw [ho1] at hA hH hbl' hp1
  have hsa := Lib.hid (show (Tryd.prog.info? 22).map (·.size) = some (ka.map B).length by rw [List.length_map, hal]; kernel_rfl)
  have hsc := Lib.hid (show (Tryd.prog.info? 22).map (·.size) = some (kc.map B).length by rw [List.length_map, hcl]; kernel_rfl)
  have hsD := Lib.hid (show (Tryd.prog.info? 35).map (·.size) = some (D.map B).length by rw [List.length_map, hDl]; exact k76)
  have Hpr := Lib.hid (fun (w' : World) (h : w'.rangeAt w.heap.size 0 (D.map B)) => rng_parts (a := ka) (b := kb) (c := kc) (by rw [hDe]; exact h) hal hbl)
  have HD := Lib.hid hD
  obtain ⟨h, hh⟩ : ∃ h, H.length = h := ⟨_, rfl⟩
  obtain ⟨L, hL⟩ : ∃ L, n + 16 = L := ⟨_, rfl⟩
  have hLi : (n : Int) + 16 = (L : Int) := by omega
  have hns : ¬ ((n : Int) + (S : Int) < 4) := by omega
  rw [hh] at hRl hHl hHu
  rw [hL] at hB
  clear hz1 ho1 hDe hD
  go_enter Tryd.func25, Tryd.ntmps25
  go_upto_region 1 with (fail)
  generalize (World.alloc _ _) = W1 at *
  have l0 := hA.lt
  have l1 := hH.lt
  have hbs := hbl'.size
  have hby := hB W1 hbl'
  unfold HBy at hby
  rw [hh] at hby
  have Hby := Lib.hid hby
  have HA := Lib.hid hA
  have HB1 := Lib.hid hbl'
  have HP := Lib.hid hp1
  have c0 := hH.cells
  clear hA hH hbl' hp1 hp hB hby
  obtain ⟨t, ht⟩ : ∃ t, h - S = t := ⟨_, rfl⟩
  have hti : (h : Int) - (S : Int) = (t : Int) := by omega
  go_upto_region 9 with (go_at_call 45; refine Hby.out.mono ?_; rintro x w2 ⟨a2, c2, rfl, j2, B2⟩)
  have z2 := B2.size
  have hA2 := HA.out.bl B2 l0
  have rD : w2.drew.rangeAt w.heap.size 0 (D.map B) := hA2.rng
  have lD : w.heap.size < w2.heap.size := hA2.lt
  have hu32 := Tryd.underlying22
  have hu76 := Tryd.underlying35
  have hsa' := hsa.out
  have hsD' := hsD.out
  have HJ2 := Lib.hid (show JW w2.drew W1.heap.size 5 a2 h c2 (H.map B) from j2)
  have HP2 := Lib.hid (RS.drew (RS.below HP.out B2 (Nat.le_refl _)))
  have HB2 := Lib.hid (HB1.out.trans (B2.mono hbs)).drew
  have HCL := Lib.hid HD.out.hc
  obtain ⟨r, hr⟩ : ∃ r, cl.length = r := ⟨_, rfl⟩
  have hrn : r = n + 16 := by omega
  clear j2 B2 hA2 HA HB1 HP Hby c0
  refine wp_region_held_drew (S := fun w' => w'.rangeAt w.heap.size 0 (D.map B)) (by kernel_rfl) rD (fun hHeld => ?_)
  refine wpAnyH_take (i := 0) (v := .slice a2 h c2) rfl (by kernel_rfl) (by kernel_rfl) (by kernel_rfl) (fun _ _ _ h => h) (Or.inl ⟨by rfl, fun w h => by go_simp⟩) hHeld ?_
  try simp only [Act.put, List.getElem_toArray, List.getElem_cons_zero, List.setIfInBounds_toArray, List.set_cons_zero, List.set_cons_succ]
  refine wpAnyH_take (i := 1) (v := .pointer (some ⟨w.heap.size, 0, none⟩)) rfl (by kernel_rfl) (by kernel_rfl) (by kernel_rfl) (fun _ _ _ h => h) (Or.inl ⟨by rfl, fun w h => by go_simp⟩) hHeld ?_
  try simp only [Act.put, List.getElem_toArray, List.getElem_cons_succ, List.getElem_cons_zero, List.setIfInBounds_toArray, List.set_cons_zero, List.set_cons_succ]
  refine wpAnyH_take (i := 2) rfl (by kernel_rfl) (by kernel_rfl) (by kernel_rfl) (fun _ _ _ h => h) (yieldsIf_load_mid (by rfl) _ _ rfl _ _ rfl _ _ (fun w' h => (Hpr.out w' h).1) hu32 rfl hsa') hHeld ?_
  try simp only [Act.put, List.getElem_toArray, List.getElem_cons_succ, List.getElem_cons_zero, List.setIfInBounds_toArray, List.set_cons_zero, List.set_cons_succ]
  refine wpAnyH_take (i := 3) rfl (by kernel_rfl) (by kernel_rfl) (by kernel_rfl) (fun _ _ _ h => h) (yieldsIf_load_mid (by rfl) _ _ rfl _ _ rfl _ _ (fun w' h => h) hu76 rfl hsD') hHeld ?_
  try simp only [Act.put, List.getElem_toArray, List.getElem_cons_succ, List.getElem_cons_zero, List.setIfInBounds_toArray, List.set_cons_zero, List.set_cons_succ]
  refine wpAnyH_take (i := 4) (v := .int .u64 (pn : Int)) rfl (by kernel_rfl) (by kernel_rfl) (by kernel_rfl) (fun _ _ _ h => h) (Or.inl ⟨by rfl, fun w h => by go_simp⟩) hHeld ?_
  try simp only [Act.put, List.getElem_toArray, List.getElem_cons_succ, List.getElem_cons_zero, List.setIfInBounds_toArray, List.set_cons_zero, List.set_cons_succ]
  refine wpAnyH_take (i := 6) (v := .slice a n c) rfl (by kernel_rfl) (by kernel_rfl) (by kernel_rfl) (fun _ _ _ h => h) (Or.inl ⟨by rfl, fun w h => by go_simp⟩) hHeld ?_
  try simp only [Act.put, List.getElem_toArray, List.getElem_cons_succ, List.getElem_cons_zero, List.setIfInBounds_toArray, List.set_cons_zero, List.set_cons_succ]
  refine wpAnyH_take (i := 7) (v := .slice a2 h c2) rfl (by kernel_rfl) (by kernel_rfl) (by kernel_rfl) (fun _ _ _ h => h) (Or.inl ⟨by rfl, fun w h => by go_simp⟩) hHeld ?_
  try simp only [Act.put, List.getElem_toArray, List.getElem_cons_succ, List.getElem_cons_zero, List.setIfInBounds_toArray, List.set_cons_zero, List.set_cons_succ]
  refine wpAnyH_ready (rs := [5]) (by kernel_rfl) (by simp) (AllReadyH.cons rfl (fun K hK => ?_) AllReadyH.nil)
  go_simp
  go_at_call 36
  refine (Hnon.out _).mono ?_
  rintro x w3 ⟨rfl, B3⟩
  have b3 : Below w2.drew.heap.size w2.drew w3 := B3
  have j3 := HJ2.out.below' b3
  have Hcl := Lib.hid (close_any w3 hal hnl (RS.below HP2.out b3 (Nat.le_refl _)) j3.rs (by omega) HCL.out)
  have HJ3 := Lib.hid j3
  refine hK.out _ _ (rng_bel rD b3 lD) (fun hHeld => ?_)
  clear hK K j3
  try simp only [Act.put, List.getElem_toArray, List.getElem_cons_succ, List.getElem_cons_zero, List.setIfInBounds_toArray, List.set_cons_zero, List.set_cons_succ]
  refine wpAnyH_ready (rs := [8]) (by kernel_rfl) (by simp) (AllReadyH.cons rfl (fun K hK => ?_) AllReadyH.nil)
  go_simp
  go_at_call 46
  refine Hcl.out.mono ?_
  rintro x w4 ⟨a4, c4, rfl, o4, B4⟩
  have b4 := btr b3 B4
  have j4 := HJ3.out.below' B4
  have hz24 : W1.heap.size ≤ w4.heap.size := Nat.le_trans z2 b4.size
  refine hK.out _ _ (rng_bel rD b4 lD) (fun hHeld => ?_)
  clear hK K Hcl
  try simp only [Act.put, List.getElem_toArray, List.getElem_cons_succ, List.getElem_cons_zero, List.setIfInBounds_toArray, List.set_cons_zero, List.set_cons_succ]
  refine wpAnyH_ready (rs := [9]) (by kernel_rfl) (by simp) (AllReadyH.cons rfl (fun K hK => ?_) AllReadyH.nil)
  refine S_append_J tB j4 o4.rs (by omega) _ _ rfl rfl rfl rfl (by omega) (by unfold maxLen; omega) hz24 ?_
  intro a5 c5 w5 o5 g5
  have hb4 := HB2.out.trans (b4.mono HB2.out.size)
  have hb5 := hb4.grown g5 hb4.size (row_le (fun ad ha => Nat.le_trans hbs (j4.base_le ad ha)) (Nat.le_refl _))
  rw [← List.map_append] at o5
  refine hK.out _ _ ?_ (fun hHeld => ?_)
  · exact fun j v hv => (World.cell?_of_block (a := ⟨w.heap.size, 0 + j, none⟩) (g5.block _ (Nat.lt_of_lt_of_le lD b4.size) (fun he => by
      obtain ⟨ad, h1, h2⟩ := Option.map_eq_some_iff.1 he.symm
      have := j4.base_le ad h1; simp at h2; omega))).trans (rng_bel rD b4 lD j v hv)
  clear hK K
  try simp only [Act.put, List.getElem_toArray, List.getElem_cons_succ, List.getElem_cons_zero, List.setIfInBounds_toArray, List.set_cons_zero, List.set_cons_succ]
  refine wpAnyH_take (i := 10) (v := .slice a5 (h + (n + 16)) c5) rfl (by kernel_rfl) (by kernel_rfl) (by kernel_rfl) (fun _ _ _ h => h) (Or.inl ⟨by rfl, fun w h => by go_simp⟩) hHeld ?_
  try simp only [Act.put, List.getElem_toArray, List.getElem_cons_succ, List.getElem_cons_zero, List.setIfInBounds_toArray, List.set_cons_zero, List.set_cons_succ]
  refine wpAnyH_done (by kernel_rfl) ?_ _
  try simp only [Act.put, List.getElem_toArray, List.getElem_cons_succ, List.getElem_cons_zero]
  obtain ⟨e, he⟩ : ∃ e, h + (n + 16) = e := ⟨_, rfl⟩
  rw [he] at o5 ⊢
  have hRe : R.length = e := by omega
  obtain ⟨PP, hPP⟩ : ∃ PP, H ++ cl = PP := ⟨_, rfl⟩
  have hmm := HD.out.mm
  have hqq := HD.out.hq
  rw [hPP] at o5 hmm hqq
  rw [hh, ht] at hmm hqq
  have hPl : PP.length = e := by rw [← hPP, List.length_append, hh, hr]; omega
  have hte : t + 20 ≤ e := by omega
  have hz5 := hb5.size
  have rD5 : w5.rangeAt w.heap.size 0 (D.map B) := hHeld
  have rK5 := (Hpr.out w5 rD5).2.2
  have lw5 : w.heap.size < w5.heap.size := Nat.lt_of_lt_of_le (Nat.lt_of_lt_of_le lD b4.size) g5.size
  have Hmk := Lib.hid (pmask_any w5 hcl o5.rs hte hmm)
  have HO5 := Lib.hid o5
  have HB5 := Lib.hid hb5
  have hsc' := hsc.out
  have hW15 : W1.heap.size ≤ w5.heap.size := Nat.le_trans hz24 g5.size
  have Hmm := Lib.hid hmm
  clear hHeld b3 b4 hb4 B3 B4 o4 j4 g5 o5 hb5 hmm HJ2 HJ3 HP2 HB2 HCL rD rD5 Hnon
  go_upto_region 11 with (first
    | (refine wpList_load_mid rfl _ _ rfl _ _ rfl (kc.map B) _ rK5 hu32 rfl hsc' ?_)
    | (go_at_call 47; refine Hmk.out.mono ?_; rintro x w7 ⟨rfl, B7⟩)
    | (refine L_storeAB rfl _ _ _ rfl rfl rfl (show AB (w7.alloc _) w7.heap.size 84 z5 from heap_alloc_new w7 _) i5 (by simp [z5]) hml ?_; intro w6 hm6 hg6))
  have z7s := B7.size
  have b6 : Below w5.heap.size w5 w6 := (B7.alloc z7s _).grown hg6 (by simp; omega) (fun k hk => by cases hk; exact z7s)
  obtain ⟨gm, hgm⟩ : ∃ gm, w7.heap.size = gm := ⟨_, rfl⟩
  rw [hgm] at hm6 z7s ⊢
  have lgm := hm6.lt
  have o6 := HO5.out.below b6 (Nat.le_refl _)
  obtain ⟨g4, rfl, lg4, lg5⟩ : ∃ g, a5 = some ⟨g, 0, none⟩ ∧ W1.heap.size ≤ g ∧ g < gm := by
    rcases HO5.out.shape with ⟨_, h, _⟩ | ⟨g, cur, h1, h2, h3, _⟩
    · omega
    · exact ⟨g, h1, h2, by omega⟩
  obtain ⟨b0, hP0⟩ : ∃ b0, PP[0]? = some b0 := ⟨_, List.getElem?_eq_getElem (by omega)⟩
  obtain ⟨m0, hm0⟩ : ∃ m0, m[0]? = some m0 := ⟨_, List.getElem?_eq_getElem (by omega)⟩
  have hmd : m.getD 0 0 = m0 := by rw [List.getD_eq_getElem?_getD, hm0]; rfl
  have hPd : PP.getD 0 0 = b0 := by rw [List.getD_eq_getElem?_getD, hP0]; rfl
  unfold unS at hqq
  rw [hPd, hmd] at hqq
  have hfa := fst_and b0 m0
  have hbl0 := b0.toNat_lt
  have hml0 := m0.toNat_lt
  have hz8 := (fstS b0 m0).toNat_lt
  have o7 := o6.setCell 0 (B (fstS b0 m0)) rfl
  rw [← List.map_set] at o7
  have q0 : w6.cell? ⟨g4, 0, none⟩ = some (.int .u8 (b0.toNat : Int)) := o6.cell 0 (B b0) (by rw [List.getElem?_map, hP0]; rfl)
  have f0 := o6.frozen 0
  have q1 : w6.cell? ⟨gm, 0, none⟩ = some (.int .u8 (m0.toNat : Int)) := hm6.cell 0 m0 hm0
  have hbt := bitsN_lt b0.toNat
  have Hbits := Lib.hid (fun w => bits_any w b0.toNat hbl0)
  obtain ⟨K, hKK⟩ : ∃ K, bitsN b0.toNat = K := ⟨_, rfl⟩
  rw [hKK] at hfa hbt Hbits
  have hand := u8_and_nat m0.toNat K hml0 hbt
  obtain ⟨r', hr'⟩ : ∃ r', m0.toNat &&& K = r' := ⟨_, rfl⟩
  rw [hr'] at hfa hand
  have hrl : r' < 256 := by rw [← hr']; exact Nat.lt_of_le_of_lt Nat.and_le_left hml0
  have hxor := u8_xor_nat b0.toNat r' hbl0 hrl
  obtain ⟨z, hz⟩ : ∃ z, (fstS b0 m0).toNat = z := ⟨_, rfl⟩
  have hv : B (fstS b0 m0) = .int .u8 (z : Int) := by unfold B; rw [hz]
  rw [← hfa, hz] at hxor
  obtain ⟨Q1, hQ1⟩ : ∃ Q1, PP.set 0 (fstS b0 m0) = Q1 := ⟨_, rfl⟩
  rw [hQ1] at hqq o7
  rw [hv] at o7
  have g7 : w6.grownBy (w6.setCell ⟨g4, 0, none⟩ (.int .u8 (z : Int))) (some g4) := grownBy_setCell _ _ _
  have HO7 := Lib.hid o7.drew
  have HG7 := Lib.hid (grown_drew g7)
  have Hm6 := Lib.hid hm6
  have HB6 := Lib.hid (HB5.out.trans (b6.mono hz5))
  have Hqq : EB (unJ Q1 m t S) R := ⟨hqq⟩
  have hQ1l : Q1.length = e := by rw [← hQ1, List.length_set]; exact hPl
  have he0 : 0 < e := by omega
  clear o6 b6 hP0 hm0 hmd hPd hqq hfa hKK hr' hz hv hQ1 o7 g7 hm6 hg6 B7 hgm HO5 HB5 Hmk rK5 hPP
  go_still_tail 12, (by kernel_rfl)
  still_call ((Hbits.out _).mono (fun e w' h => ⟨h.1, h.2.symm⟩))
  repeat still_step
  refine wpStill_nil ?_
  change wpList _ _ _ _ _ w6.drew
  go_upto_region 12 with (fail)
  have hm7 : AB (w6.setCell ⟨g4, 0, none⟩ (.int .u8 (z : Int))).drew gm 84 m := Hm6.out.grown HG7.out (by simp; omega)
  have Hm7 := Lib.hid hm7
  clear hm7 Hm6 q0 q1 f0 hxor hand Hbits
  generalize (World.setCell _ _ _).drew = W7 at *
  have ho7 : OW W7 W1.heap.size 5 1 (some ⟨g4, 0, none⟩) e c5 ((unJ Q1 m t 0).map B) := HO7.out
  go_wp2
  go_loopw [79] (fun s79 wr => ∃ i : Nat, i ≤ S ∧ s79 = .int .i64 (i : Int) ∧ OW wr W1.heap.size 5 1 (some ⟨g4, 0, none⟩) e c5 ((unJ Q1 m t i).map B) ∧ W7.grownBy wr (some g4)) (fun s79 _ => S - (intOf s79).toNat)
  case atStart => exact ⟨0, by omega, rfl, ho7, World.grownBy.refl W7 _⟩
  case round =>
    obtain ⟨i, hi, rfl, hO, hG⟩ := hrel
    clear ho7
    by_cases hlt : i < S
    · obtain ⟨u, hu⟩ : ∃ u, t + i = u := ⟨_, rfl⟩
      have hui : (t : Int) + (i : Int) = (u : Int) := by omega
      have hue : u < e := by omega
      obtain ⟨x, hx⟩ : ∃ x, (unJ Q1 m t i)[u]? = some x := ⟨_, List.getElem?_eq_getElem (by rw [unJ_len]; omega)⟩
      obtain ⟨y, hy⟩ : ∃ y, m[1 + i]? = some y := ⟨_, List.getElem?_eq_getElem (by omega)⟩
      have hxl := x.toNat_lt
      have hyl := y.toNat_lt
      have q0 : wr.cell? ⟨g4, u, none⟩ = some (.int .u8 (x.toNat : Int)) := hO.cell u (B x) (by rw [List.getElem?_map, hx]; rfl)
      have f0 := hO.frozen u
      obtain ⟨v, hvv⟩ : ∃ v, 1 + i = v := ⟨_, rfl⟩
      have hvi : 1 + (i : Int) = (v : Int) := by omega
      have hv5 : v < 5 := by omega
      have q1 : wr.cell? ⟨gm, v, none⟩ = some (.int .u8 (y.toNat : Int)) := (Hm7.out.grown hG (by simp; omega)).cell v y (by rw [← hvv]; exact hy)
      have hxor := u8_xor_nat x.toNat y.toNat hxl hyl
      have hv : B (x ^^^ y) = .int .u8 ((x.toNat ^^^ y.toNat : Nat) : Int) := by simp [B]
      have hset : (unJ Q1 m t i).set u (x ^^^ y) = unJ Q1 m t (i + 1) := by
        rw [unJ, hu, List.getD_eq_getElem?_getD, hx, List.getD_eq_getElem?_getD, hy]; rfl
      have hO6 := hO.setCell u (B (x ^^^ y)) rfl
      rw [← List.map_set, hset, hv] at hO6
      have hG6 := grown_set hG u (B (x ^^^ y))
      rw [hv] at hG6
      have HO6 := Lib.hid (OW.drew hO6)
      have HG6 := Lib.hid (grown_drew hG6)
      obtain ⟨z', hz'⟩ : ∃ z', x.toNat ^^^ y.toNat = z' := ⟨_, rfl⟩
      rw [hz'] at hxor HO6 HG6
      clear hu hx hy hset hO hG hv hO6 hG6 hz' hvv
      go_upto_region 15 with (fail)
      go_region
      clear q0 q1 f0 hxor
      generalize World.drew _ = W8 at *
      go_wp2
      go_roundw
      case rel => exact ⟨i + 1, by omega, by go_num, HO6.out, HG6.out⟩
      case measure => simp [intOf]; omega
    · obtain rfl : i = S := by omega
      rw [Hqq.h] at hO
      have hb9 := HB6.out.grown (grown_trans HG7.out hG) HB6.out.size (fun k hk => by cases hk; omega)
      have HO := Lib.hid hO
      have HB9 := Lib.hid hb9
      clear hO hG hb9
      go_wp2
      go_ret2
      rw [hRe]
      exact ⟨_, _, rfl, HO.out.mono hbs, HB9.out⟩
end Go.Proofs.YtlncnjcbgfeaoaaDoor

/- what is closed is opened, in plain Lean. -/
set_option maxRecDepth 100000
set_option linter.unusedVariables false
namespace Go.Proofs.YtlncnjcbgfeaoaaDoor
open Go.RowKit
theorem mixS_twice' (key nonce p : List UInt8) : mixS key nonce (mixS key nonce p) = p := by
  have hl := mixS_len key nonce p
  apply List.ext_getElem?
  intro i
  rcases Nat.lt_or_ge i p.length with hi | hi
  · have h1 : (mixS key nonce p)[i]? = some (p.getD i 0 ^^^ (strS key nonce 1 ((p.length + 63) / 64)).getD i 0) := by
      unfold mixS
      rw [mixJ_get _ _ _ _ hi, if_pos hi]
    have h2 : (mixS key nonce (mixS key nonce p))[i]? = some ((mixS key nonce p).getD i 0 ^^^ (strS key nonce 1 ((p.length + 63) / 64)).getD i 0) := by
      rw [mixS.eq_1 key nonce (mixS key nonce p), mixJ_get _ _ _ _ (by rw [hl]; exact hi), if_pos (by rw [hl]; exact hi), hl]
    rw [h2, List.getD_eq_getElem?_getD (l := mixS key nonce p), h1, Option.getD_some, UInt8.xor_assoc, UInt8.xor_self, UInt8.xor_zero, List.getD_eq_getElem?_getD, List.getElem?_eq_getElem hi]; rfl
  · rw [List.getElem?_eq_none (by rw [mixS_len, mixS_len]; exact hi), List.getElem?_eq_none hi]
/-- what is closed is opened -/
theorem opened' {key nonce p bs d : List UInt8} (hD : CL key nonce p bs d) : OPN key nonce d bs p 0 := by
  have hd := hD.h
  have hl := hD.len
  unfold closeS at hd
  have hml := mixS_len key nonce p
  have htl := markS_len key nonce (mixS key nonce p) bs
  have htw := mixS_twice' key nonce p
  obtain ⟨M, hM⟩ : ∃ M, mixS key nonce p = M := ⟨_, rfl⟩
  rw [hM] at hd hml htl htw
  obtain ⟨T, hT⟩ : ∃ T, markS key nonce M bs = T := ⟨_, rfl⟩
  rw [hT] at hd htl
  refine ⟨?_⟩
  unfold openS
  have e1 : d.length - 16 = M.length := by omega
  rw [e1, if_neg (by omega), ← hd, List.take_left, List.drop_left, hT, beq_self_eq_true, if_pos rfl, htw]
theorem unJ_set0 (q m : List UInt8) (a i : Nat) (x : UInt8) (ha : 0 < a) : (unJ q m a i).set 0 x = unJ (q.set 0 x) m a i := by
  induction i with
  | zero => rfl
  | succ i ih =>
    rw [unJ, unJ, ← ih, List.set_comm _ _ (by omega)]
    congr 2
    rw [List.getD_eq_getElem?_getD, List.getD_eq_getElem?_getD, List.getElem?_set_ne (by omega)]
/-- what is closed is opened: both keys', whatever stands behind it, if its head is read where it lies -/
theorem CPR.back {ka kb kc H plain nn cl m R behind : List UInt8} {S pn : Nat} {hd : Hd} (h : CPR ka kb kc H plain S pn nn cl m R) (h1 : 1 ≤ S) (h4 : S ≤ 4) (hHl : S + 1 ≤ H.length) (hs4 : 4 ≤ plain.length + S)
    (hS : (H.getD 0 0).toNat % 4 + 1 = S) (hR : readS (R ++ behind) = (0, hd, H.length - S, R.length)) : BAR kc (R ++ behind) hd (H.length - S) R.length m (H ++ cl) S := by
  obtain ⟨a, ha⟩ : ∃ a, H.length - S = a := ⟨_, rfl⟩
  have hmm := h.mm
  have hq := h.hq
  have hcl := h.hc.len
  rw [ha] at hmm hq hR ⊢
  obtain ⟨PP, hPP⟩ : ∃ PP, H ++ cl = PP := ⟨_, rfl⟩
  have hPl : PP.length = H.length + plain.length + 16 := by rw [← hPP, List.length_append, hcl]; omega
  have h0 : PP.getD 0 0 = H.getD 0 0 := by
    rw [← hPP, List.getD_eq_getElem?_getD, List.getElem?_append_left (by omega), ← List.getD_eq_getElem?_getD]
  rw [hPP] at hmm hq ⊢
  obtain ⟨b0, hb0⟩ : ∃ b0, PP.getD 0 0 = b0 := ⟨_, rfl⟩
  obtain ⟨m0, hm0⟩ : ∃ m0, m.getD 0 0 = m0 := ⟨_, rfl⟩
  unfold unS at hq
  rw [hb0, hm0] at hq
  rw [← h0, hb0] at hS
  have hRl : R.length = PP.length := by rw [← hq, unJ_len, List.length_set]
  have hR0 : R.getD 0 0 = fstS b0 m0 := by
    rw [← hq, List.getD_eq_getElem?_getD, unJ_out _ _ _ _ _ (.inl (by omega)), List.getElem?_set_self (by omega)]; rfl
  have htk : (R ++ behind).take R.length = R := List.take_left
  have hg0 : (R ++ behind).getD 0 0 = R.getD 0 0 := by
    rw [List.getD_eq_getElem?_getD, List.getElem?_append_left (by omega), ← List.getD_eq_getElem?_getD]
  refine ⟨hR, ?_, ?_, ?_⟩
  · rw [htk]
    have e : (R.drop (a + 4)).take 16 = (PP.drop (a + 4)).take 16 := by
      congr 1
      apply List.ext_getElem?
      intro j
      rw [List.getElem?_drop, List.getElem?_drop, ← hq, unJ_out _ _ _ _ _ (.inr (by omega)), List.getElem?_set_ne (by omega)]
    rw [e]; exact hmm
  · rw [hg0, hR0, hm0, fst_twice]; exact hS
  · rw [htk]
    unfold unS
    rw [hR0, hm0, fst_twice, ← hq, unJ_set0 _ _ _ _ _ (by omega), List.set_set]
    rw [show PP.set 0 b0 = PP by
      apply List.ext_getElem?
      intro j
      by_cases hj : j = 0
      · subst hj
        rw [List.getElem?_set_self (by omega), ← hb0, List.getD_eq_getElem?_getD, List.getElem?_eq_getElem (by omega)]; rfl
      · rw [List.getElem?_set_ne (by omega)]]
    exact unJ_twice _ _ _ _ (by omega)
/-- and so its number, its nonce and all it carries -/
theorem CPR.opr {ka kb kc H plain nn cl m R behind : List UInt8} {S pn largest : Nat} {some : Bool} {hd : Hd} (h : CPR ka kb kc H plain S pn nn cl m R) (h1 : 1 ≤ S) (h4 : S ≤ 4) (hHl : S + 1 ≤ H.length) (hs4 : 4 ≤ plain.length + S)
    (hS : (H.getD 0 0).toNat % 4 + 1 = S) (hR : readS (R ++ behind) = (0, hd, H.length - S, R.length)) (hg : GR largest some (cutS H (H.length - S) S) S pn) :
    OPR ka kb kc (R ++ behind) largest some hd (H.length - S) R.length m (H ++ cl) S pn nn plain 0 := by
  have hc : cutS (H ++ cl) (H.length - S) S = cutS H (H.length - S) S := by
    unfold cutS
    rw [List.drop_append_of_le_length (by omega), List.take_append_of_le_length (by rw [List.length_drop]; omega)]
  refine ⟨h.back h1 h4 hHl hs4 hS hR, by rw [hc]; exact hg, h.non, ?_⟩
  rw [show H.length - S + S = H.length by omega, List.drop_left, List.take_left]
  exact opened' h.hc
end Go.Proofs.YtlncnjcbgfeaoaaDoor

/- what is closed is read again: short and long heads, masked. -/
set_option maxRecDepth 100000
set_option linter.unusedVariables false
namespace Go.Proofs.YtlncnjcbgfeaoaaDoor
theorem readN_eq {p p' : List UInt8} (h : p.length = p'.length) (lv : Int) (i1 i2 r : List UInt8) : readN p lv i1 i2 r = readN p' lv i1 i2 r := by unfold readN; rw [h]
theorem readT_eq {p p' : List UInt8} (h : p.length = p'.length) (lv : Int) (i1 i2 r : List UInt8) : readT p lv i1 i2 r = readT p' lv i1 i2 r := by unfold readT; simp only [readN_eq h]
theorem readL_eq (b b' : UInt8) (r : List UInt8) (lv : Int) : readL (b' :: r) lv = readL (b :: r) lv := by
  have d1 : (b' :: r).drop 1 = (b :: r).drop 1 := rfl
  have d5 : (b' :: r).drop 5 = (b :: r).drop 5 := rfl
  have d6 : ∀ x, (b' :: r).drop (5 + 1 + x) = (b :: r).drop (5 + 1 + x) := fun x => by rw [show 5 + 1 + x = (5 + x) + 1 by omega]; rfl
  have d7 : ∀ x y, (b' :: r).drop (5 + 1 + x + 1 + y) = (b :: r).drop (5 + 1 + x + 1 + y) := fun x y => by rw [show 5 + 1 + x + 1 + y = (6 + x + y) + 1 by omega]; rfl
  have hl : (b' :: r).length = (b :: r).length := rfl
  unfold readL
  simp only [hl, d1, d5, d6, d7, readT_eq hl]
/-- reading looks at no more of a first byte than its upper bits -/
theorem readS_first (b b' : UInt8) (r : List UInt8) (h : 128 ≤ b.toNat) (h' : b'.toNat / 16 = b.toNat / 16) : readS (b' :: r) = readS (b :: r) := by
  have e : readP (b' :: r) = readP (b :: r) := by
    have e1 := readL_eq b b' r 0
    have e2 := readL_eq b b' r 1
    unfold readP
    dsimp only
    rw [show b'.toNat / 64 = b.toNat / 64 by omega, h', e1, e2, if_neg (by omega : ¬ b'.toNat < 128), if_neg (by omega : ¬ b.toNat < 128)]
  unfold readS
  rw [e]
/-- the closed packet: its first byte, what stands between it and the number as it was -/
theorem CPR.shape {ka kb kc H plain nn cl m R : List UInt8} {S pn : Nat} (h : CPR ka kb kc H plain S pn nn cl m R) (b0 : UInt8) (M : List UInt8) (hS1 : 1 ≤ S) (hH : H.take (H.length - S) = b0 :: M) (hSl : S + 1 ≤ H.length) :
    ∃ X, R = fstS b0 (m.getD 0 0) :: (M ++ X) ∧ X.length = S + plain.length + 16 := by
  obtain ⟨a, ha⟩ : ∃ a, H.length - S = a := ⟨_, rfl⟩
  have hq := h.hq
  have hcl := h.hc.len
  rw [ha] at hH hq
  have hMl : M.length + 1 = a := by have := congrArg List.length hH; rw [List.length_take, List.length_cons] at this; omega
  have hRl := h.len
  have hH0 : (H ++ cl).getD 0 0 = b0 := by
    have : (H.take a)[0]? = some b0 := by rw [hH]; rfl
    rw [List.getElem?_take, if_pos (by omega)] at this
    rw [List.getD_eq_getElem?_getD, List.getElem?_append_left (by omega), this]; rfl
  unfold unS at hq
  rw [hH0] at hq
  refine ⟨R.drop a, ?_, by rw [List.length_drop]; omega⟩
  have hT : R.take a = fstS b0 (m.getD 0 0) :: M := by
    apply List.ext_getElem?
    intro j
    by_cases hj : j < a
    · rw [List.getElem?_take, if_pos hj, ← hq, unJ_out _ _ _ _ _ (.inl hj)]
      cases j with
      | zero => rw [List.getElem?_set_self (by rw [List.length_append]; omega)]; rfl
      | succ j =>
        rw [List.getElem?_set_ne (by omega), List.getElem?_append_left (by omega)]
        have : (H.take a)[j + 1]? = (b0 :: M)[j + 1]? := by rw [hH]
        rw [List.getElem?_take, if_pos hj] at this
        exact this
    · rw [List.getElem?_eq_none (by rw [List.length_take]; omega), List.getElem?_eq_none (by rw [List.length_cons]; omega)]
  have := List.take_append_drop a R
  rw [hT, List.cons_append] at this
  exact this.symm
/-- a short head -/
theorem short_read {ka kb kc plain nn cl m R t : List UInt8} {S pn : Nat} {ph : Bool} (h : CPR ka kb kc (bytesShort ph t S pn) plain S pn nn cl m R) (h1 : 1 ≤ S) (h4 : S ≤ 4) (ht : t.length = 8) (hs4 : 4 ≤ plain.length + S) :
    readS (R ++ []) = (0, ⟨false, 2, t, []⟩, (bytesShort ph t S pn).length - S, R.length) := by
  have hl : (bytesShort ph t S pn).length = 9 + S := by unfold bytesShort; simp [beB_len, ht]; omega
  obtain ⟨b0, hb0⟩ : ∃ b0, UInt8.ofNat (63 + S + if ph then 4 else 0) = b0 := ⟨_, rfl⟩
  have hbn : b0.toNat = 63 + S + if ph then 4 else 0 := by rw [← hb0]; cases ph <;> simp <;> omega
  have hH : (bytesShort ph t S pn).take ((bytesShort ph t S pn).length - S) = b0 :: t := by
    rw [hl, show 9 + S - S = 8 + 1 by omega]
    unfold bytesShort
    rw [List.take_succ_cons, hb0, List.take_append_of_le_length (by omega), List.take_of_length_le (by omega)]
  obtain ⟨X, hX, hXl⟩ := h.shape b0 t h1 hH (by omega)
  have hlo := fst_lo b0 (m.getD 0 0)
  have h32 := fst_32 b0 (m.getD 0 0)
  have hb128 : b0.toNat < 128 := by rw [hbn]; cases ph <;> simp <;> omega
  have hb32 : b0.toNat / 32 = 2 := by rw [hbn]; cases ph <;> simp <;> omega
  have hRl := h.len
  rw [List.append_nil, hX, readS_app _ _ (by omega) (hlo.2 hb128), ← hX, if_neg (by omega), if_neg (by omega), hl]
  rw [List.take_append_of_le_length (by omega), List.take_of_length_le (by omega), show 9 + S - S = 9 by omega]
theorem short_bits (ph : Bool) (t : List UInt8) (S pn : Nat) (h1 : 1 ≤ S) (h4 : S ≤ 4) : ((bytesShort ph t S pn).getD 0 0).toNat % 4 + 1 = S ∧ restN ((bytesShort ph t S pn).getD 0 0).toNat = 0 ∧
    phS false (bytesShort ph t S pn) = ph := by
  have e : (bytesShort ph t S pn).getD 0 0 = UInt8.ofNat (63 + S + if ph then 4 else 0) := rfl
  unfold phS
  rw [e]
  rcases (show S = 1 ∨ S = 2 ∨ S = 3 ∨ S = 4 by omega) with rfl | rfl | rfl | rfl <;> cases ph <;> decide
end Go.Proofs.YtlncnjcbgfeaoaaDoor
