/- texts EL EM in one. -/
import Derived.Test.YtlncnjcbgfeaoaaDoorYcb
import Derived.Test.YtlncnjcbgfeaoaaDoorYay
import Derived.Test.YtlncnjcbgfeaoaaDoorYbs
import Derived.Test.YtlncnjcbgfeaoaaDoorYba
import Derived.Lib.SmallJoins

/- what ParcelBack wants of the reference (Need) and of Close where it refuses. -/
set_option maxRecDepth 100000
set_option linter.unusedVariables false
namespace Go.Proofs.YtlncnjcbgfeaoaaDoor
open Go.RowKit
def needN (far : Nat) : Nat := if far ≤ 128 then 1 else if far ≤ 32768 then 2 else if far ≤ 8388608 then 3 else 4
theorem needN_bd (far : Nat) : 1 ≤ needN far ∧ needN far ≤ 4 := by
  unfold needN; repeat' split
  all_goals omega
theorem needN_far (far : Nat) (h : far ≤ 65536) : far ≤ 256 ^ needN far / 2 := by
  unfold needN; repeat' split
  all_goals simp only [Nat.reducePow, Nat.reduceDiv]
  all_goals omega
theorem pow1 (w : World) : Calls Tryd.prog 44 #[.int .i64 1] w fun e w' => e = .returned (.int .u64 256) ∧ Below w.heap.size w w' := power_any w 1 (by decide) (by decide)
theorem pow2 (w : World) : Calls Tryd.prog 44 #[.int .i64 2] w fun e w' => e = .returned (.int .u64 65536) ∧ Below w.heap.size w w' := power_any w 2 (by decide) (by decide)
theorem pow3 (w : World) : Calls Tryd.prog 44 #[.int .i64 3] w fun e w' => e = .returned (.int .u64 16777216) ∧ Below w.heap.size w w' := power_any w 3 (by decide) (by decide)
theorem need_any (w : World) (acked far : Nat) (ha : acked < 1152921504606846976) (hf : far ≤ 65536) :
    Calls Tryd.prog 24 #[.int .u64 ((acked + far : Nat) : Int), .int .u64 (acked : Int), .bool true] w fun e w' => e = .returned (.int .i64 (needN far : Int)) ∧ Below w.heap.size w w' := by
  obtain ⟨pn, hpn⟩ : ∃ pn, acked + far = pn := ⟨_, rfl⟩
  have h1 : IntKind.u64.wrap ((pn : Int) + 1) = pn + 1 := IntWalk.u64_in _ (by omega)
  have h2 : IntKind.u64.wrap ((pn : Int) - acked) = far := by rw [show (pn : Int) - acked = far by omega]; exact IntWalk.u64_in _ (by omega)
  rw [hpn]
  clear hpn
  unfold needN
  by_cases c1 : far ≤ 128
  · rw [if_pos c1]
    have d1 : (far : Int) ≤ 128 := by omega
    go_enter Tryd.func24, Tryd.ntmps24
    go_wp2
    refine wp_loop_rounds 5 ?_
    repeat any_goals (rw [rounds_succ]; go_wp2_with (go_at_call 44; refine (pow1 _).mono ?_; rintro x w1 ⟨rfl, B1⟩))
    go_ret
    exact ⟨rfl, B1⟩
  · rw [if_neg c1]
    have d1 : ¬ (far : Int) ≤ 128 := by omega
    by_cases c2 : far ≤ 32768
    · rw [if_pos c2]
      have d2 : (far : Int) ≤ 32768 := by omega
      go_enter Tryd.func24, Tryd.ntmps24
      go_wp2
      refine wp_loop_rounds 5 ?_
      repeat any_goals (rw [rounds_succ]; go_wp2_with (go_at_call 44; first | (with_reducible refine (pow1 _).mono ?_; rintro x w1 ⟨rfl, B1⟩) | (with_reducible refine (pow2 _).mono ?_; rintro x w2 ⟨rfl, B2⟩)))
      go_ret
      exact ⟨rfl, B1.trans (B2.mono B1.size)⟩
    · rw [if_neg c2]
      have d2 : ¬ (far : Int) ≤ 32768 := by omega
      by_cases c3 : far ≤ 8388608
      · rw [if_pos c3]
        have d3 : (far : Int) ≤ 8388608 := by omega
        go_enter Tryd.func24, Tryd.ntmps24
        go_wp2
        refine wp_loop_rounds 5 ?_
        repeat any_goals (rw [rounds_succ]; go_wp2_with (go_at_call 44; first | (with_reducible refine (pow1 _).mono ?_; rintro x w1 ⟨rfl, B1⟩) | (with_reducible refine (pow2 _).mono ?_; rintro x w2 ⟨rfl, B2⟩) | (with_reducible refine (pow3 _).mono ?_; rintro x w3 ⟨rfl, B3⟩)))
        go_ret
        exact ⟨rfl, (B1.trans (B2.mono B1.size)).trans (B3.mono (Nat.le_trans B1.size B2.size))⟩
      · omega
section
variable {l : Bool} {lv : Int} {ph : Bool} {a ta fa : Option Addr} {n c tn tc fn fc S pn : Nat} {D : List UInt8}
theorem pclose_short (w : World) (hn : n ≤ 65536) (hpn : pn < 4611686018427387904) (h1 : 1 ≤ S) (h4 : S ≤ 4) (hs : n + S < 4) :
    Calls Tryd.prog 25 #[.agg (D.map B).toArray, .agg #[.bool l, .int .i64 lv, .bool ph, .slice ta tn tc, .slice fa fn fc], .int .u64 (pn : Int), .int .i64 (S : Int), .slice a n c] w fun x w' => x = .returned (.tuple #[.slice none 0 0, .int .i64 2]) ∧ Below w.heap.size w w' := by
  have hbl' : Below w.heap.size w _ := (below_alloc w (.cells (D.map B).toArray 35)).alloc (by simp) (.cells #[.bool l, .int .i64 lv, .bool ph, .slice ta tn tc, .slice fa fn fc] 43)
  have hns : (n : Int) + (S : Int) < 4 := by omega
  go_enter Tryd.func25, Tryd.ntmps25
  go_wp2_with fail
  go_ret2
  exact ⟨rfl, hbl'⟩
theorem pclose_bad (w : World) (hn : n ≤ 300) (hpn : pn < 4611686018427387904) (h1 : 1 ≤ S) (h4 : S ≤ 4) (hs : 4 ≤ n + S) (hr : rightS l lv ph tn fn = false) :
    Calls Tryd.prog 25 #[.agg (D.map B).toArray, .agg #[.bool l, .int .i64 lv, .bool ph, .slice ta tn tc, .slice fa fn fc], .int .u64 (pn : Int), .int .i64 (S : Int), .slice a n c] w fun x w' => x = .returned (.tuple #[.slice none 0 0, .int .i64 4]) ∧ Below w.heap.size w w' := by
  obtain ⟨o1, ho1⟩ : ∃ o1 : Obj, o1 = .cells #[.bool l, .int .i64 lv, .bool ph, .slice ta tn tc, .slice fa fn fc] 43 := ⟨_, rfl⟩
  have hz1 : (w.alloc (.cells (D.map B).toArray 35)).heap.size = w.heap.size + 1 := by simp
  have hH : HB ((w.alloc (.cells (D.map B).toArray 35)).alloc o1) (w.heap.size + 1) l lv ph (.slice ta tn tc) (.slice fa fn fc) := by
    rw [ho1, ← hz1]; exact heap_alloc_new _ _
  have hbl' : Below w.heap.size w _ := (below_alloc w (.cells (D.map B).toArray 35)).alloc (by simp) o1
  rw [ho1] at hH hbl'
  have hns : ¬ ((n : Int) + (S : Int) < 4) := by omega
  clear hz1 ho1
  go_enter Tryd.func25, Tryd.ntmps25
  go_upto_region 1 with (fail)
  generalize (World.alloc _ _) = W1 at *
  have hbs := hbl'.size
  have Hby := Lib.hid (pb_form (w := W1) (a := ta) (b := fa) (c := tc) (k := fc) (pn := (pn : Int)) (size := (S : Int)) (left := (n : Int) + 16) (by omega) (by omega) (by omega) (by omega) hr)
  have HB1 := Lib.hid hbl'
  have c0 := hH.cells
  clear hH hbl' hr
  go_wp2_with (go_at_call 45; refine Hby.out.mono ?_; rintro x w2 ⟨rfl, B2⟩)
  go_ret2
  exact ⟨rfl, HB1.out.trans (B2.mono hbs)⟩
end
theorem short_cut (ph : Bool) (t : List UInt8) (S pn : Nat) : cutS (bytesShort ph t S pn) ((bytesShort ph t S pn).length - S) S = cutS (beB S pn) 0 S := by
  obtain ⟨b0, hb0⟩ : ∃ b0, UInt8.ofNat (63 + S + if ph then 4 else 0) = b0 := ⟨_, rfl⟩
  have e : bytesShort ph t S pn = (b0 :: t) ++ beB S pn := by unfold bytesShort; rw [hb0]; rfl
  have hl : (bytesShort ph t S pn).length - S = (b0 :: t).length := by rw [e, List.length_append, beB_len]; omega
  rw [hl, e]
  unfold cutS
  rw [List.drop_left, List.drop_zero]
/-- a head that is right has its bytes, and what is closed under them is opened -/
theorem good_head (w : World) (l : Bool) (lv : Int) (ph : Bool) {a b : Option Addr} {tn c fn k N S pn ac : Nat} {ts fs P : List UInt8} (hr : rightS l lv ph tn fn = true) (ht : BS w a tn c ts) (hf : BS w b fn k fs) (hk : KG w) (hN : P.length = N) (hN3 : N ≤ 300)
    (h1 : 1 ≤ S) (h4 : S ≤ 4) (hs4 : 4 ≤ N + S) (hac : ac < pn) (hd : pn - ac ≤ 256 ^ S / 2) (hp : pn < 2305843009213693952) :
    ∃ H : List UInt8, (∀ w', Below w.heap.size w w' → HBy w' (.agg #[.bool l, .int .i64 lv, .bool ph, .slice a tn c, .slice b fn k]) pn S (N + 16) H) ∧ S + 1 ≤ H.length ∧ H.length ≤ 1000 ∧
      ∀ ka kb kc nn cl m R, CPR ka kb kc H P S pn nn cl m R → ∀ Bh : List UInt8, (l = false → Bh = []) → OPR ka kb kc (R ++ Bh) ac true (⟨l, lv, ts, fs⟩ : Hd) (H.length - S) R.length m (H ++ cl) S pn nn P 0 ∧ restN ((H ++ cl).getD 0 0).toNat = 0 ∧ phS l (H ++ cl) = ph := by
  have htl := BS.len ht
  have hfl := BS.len hf
  have hg := grow_cut h1 h4 (Nat.le_of_lt hac) hd hp
  cases l with
  | true =>
    have hr2 : 0 ≤ lv ∧ lv ≤ 1 ∧ tn < 21 ∧ fn < 21 ∧ ph = false := by simpa [rightS] using hr
    obtain ⟨r1, r2, r3, r4, rfl⟩ := hr2
    obtain ⟨v, rfl⟩ : ∃ v : Nat, lv = (v : Int) := ⟨lv.toNat, by omega⟩
    have hv : v ≤ 1 := by omega
    have hl := bytesLong_len v ts fs S (N + 16) pn
    have hL : lenL v ts fs ≤ 60 := by unfold lenL; split <;> omega
    have hL9 : 9 ≤ lenL v ts fs := by unfold lenL; omega
    refine ⟨bytesLong v ts fs S (N + 16) pn, fun w' hb => hby_long w' v hv pn S (N + 16) (by omega) h1 h4 (by omega) r3 r4 (RS.below ht hb (Nat.le_refl _)) (RS.below hf hb (Nat.le_refl _)) (hk.below hb), by omega, by omega, ?_⟩
    intro ka kb kc nn cl m R hc Bh _
    have hb1 := long_bits v ts fs S (N + 16) pn hv h1 h4
    rw [← hN] at hc hb1 hl ⊢
    have hr1 := long_read (behind := Bh) hc hv h1 h4 (by omega) (by omega) (by omega) (by omega)
    refine ⟨hc.opr h1 h4 (by omega) (by omega) hb1.1 hr1 (by rw [long_cut]; exact hg), ?_, rfl⟩
    rw [List.getD_eq_getElem?_getD, List.getElem?_append_left (by omega), ← List.getD_eq_getElem?_getD]; exact hb1.2
  | false =>
    have hr2 : lv = 2 ∧ tn = 8 ∧ fn = 0 := by simpa [rightS] using hr
    obtain ⟨rfl, rfl, rfl⟩ := hr2
    obtain rfl : fs = [] := List.eq_nil_of_length_eq_zero hfl
    have hl : (bytesShort ph ts S pn).length = 1 + 8 + S := by unfold bytesShort; simp [beB_len, htl]; omega
    refine ⟨bytesShort ph ts S pn, fun w' hb => ?_, by omega, by omega, ?_⟩
    · unfold HBy
      rw [hl]
      exact pb_short (lv := 2) (left := ((N + 16 : Nat) : Int)) (by omega) S h1 h4 (by omega) hr (RS.below ht hb (Nat.le_refl _)) (RS.below hf hb (Nat.le_refl _)) (by omega)
    · intro ka kb kc nn cl m R hc Bh hBh
      obtain rfl := hBh rfl
      have hb1 := short_bits ph ts S pn h1 h4
      have hr1 := short_read hc h1 h4 htl (by omega)
      refine ⟨hc.opr h1 h4 (by omega) (by omega) hb1.1 hr1 (by rw [short_cut]; exact hg), ?_, ?_⟩
      · rw [List.getD_eq_getElem?_getD, List.getElem?_append_left (by omega), ← List.getD_eq_getElem?_getD]; exact hb1.2.1
      · have h3 := hb1.2.2
        unfold phS at h3 ⊢
        rw [List.getD_eq_getElem?_getD, List.getElem?_append_left (by omega), ← List.getD_eq_getElem?_getD]; exact h3
end Go.Proofs.YtlncnjcbgfeaoaaDoor

/- law06.ParcelBack: its walk. -/
set_option maxRecDepth 100000
set_option linter.unusedVariables false
namespace Go.Proofs.YtlncnjcbgfeaoaaDoor
open Go.RowKit Go.Joins
/-- what stands when the packet was opened, and a head's box is made -/
structure PBJ (V w : World) (gh : Nat) (ta : Option Addr) (tm tc : Nat) (fa : Option Addr) (fm fc : Nat) (ts fs : List UInt8) (a13 : Option Addr) (N c13 : Nat) (P : List UInt8) (a14 : Option Addr) (M c14 : Nat) (Q : List UInt8) : Prop where
  bl : Below V.heap.size V w
  hb : HB w gh false 0 false (.slice none 0 0) (.slice none 0 0)
  ht : BS w ta tm tc ts
  hf : BS w fa fm fc fs
  h13 : BS w a13 N c13 P
  h14 : BS w a14 M c14 Q
  lg : V.heap.size ≤ gh
theorem OW.oldNe {w : World} {b1 g : Nat} {e1 : TypeId} {z1 n1 c1 : Nat} {a1 : Option Addr} {v1 : List Value} (h1 : OW w b1 e1 z1 a1 n1 c1 v1) (hb : g < b1) : some g ≠ a1.map (·.block) := by
  intro he
  cases ha : a1 with
  | none => rw [ha] at he; cases he
  | some a0 =>
    rw [ha] at he
    have h4 := (h1.base_le ha).1
    simp at he
    omega
theorem OW.newNe {w : World} {b1 g : Nat} {e1 : TypeId} {z1 n1 c1 : Nat} {a1 : Option Addr} {v1 : List Value} (h1 : OW w b1 e1 z1 a1 n1 c1 v1) (hb : w.heap.size ≤ g) : some g ≠ a1.map (·.block) := by
  intro he
  cases ha : a1 with
  | none => rw [ha] at he; cases he
  | some a0 =>
    rw [ha] at he
    have h4 := (h1.base_le ha).2
    simp at he
    omega
/-- what stands when the law has cut what came in -/
structure PBK (n : Nat) (W w : World) (g : Nat) (l : Bool) (lv : Int) (ph : Bool) (a1 : Option Addr) (n1 c1 : Nat) (a2 : Option Addr) (n2 c2 : Nat) (t f : List UInt8) : Prop where
  hb : HB w g l lv ph (.slice a1 n1 c1) (.slice a2 n2 c2)
  ht : BS w a1 n1 c1 t
  hf : BS w a2 n2 c2 f
  bel : Below n W w
set_option maxHeartbeats 8000000 in
theorem parcelBack_walk (W : World) (l : Bool) (lv : Int) (ph : Bool) {a b a4 a5 : Option Addr} {n c m k n4 c4 n5 c5 : Nat} {t f sec xs ys : List UInt8} (hsl : sec.length = 32) (ht : BS W a n c t) (hf : BS W b m k f) (ak : Nat) (hak : ak < 18446744073709551616) (far : Nat) (hfar : far < 65536)
    (hx : BS W a4 n4 c4 xs) (hy : BS W a5 n5 c5 ys) (hKF : KF W) (hKT : KT W) (hKG : KG W) :
    Calls Tryd.prog 5 #[.agg (sec.map B).toArray, .agg #[.bool l, .int .i64 lv, .bool ph, .slice a n c, .slice b m k], .int .u64 (ak : Int), .int .u16 (far : Int), .slice a4 n4 c4, .slice a5 n5 c5] W fun e w' => e = .returned (.bool true) ∧ Below W.heap.size W w' := by
  obtain ⟨o1, ho1⟩ : ∃ o1 : Obj, o1 = .cells #[.bool l, .int .i64 lv, .bool ph, .slice a n c, .slice b m k] 43 := ⟨_, rfl⟩
  have hA := (AB_box W 22 sec).al o1
  have hbl : Below W.heap.size W ((W.alloc (.cells (sec.map B).toArray 22)).alloc o1) := (below_alloc W _).alloc (by simp) o1
  have hH : HB ((W.alloc (.cells (sec.map B).toArray 22)).alloc o1) (W.heap.size + 1) l lv ph (.slice a n c) (.slice b m k) := by
    have := heap_alloc_new (W.alloc (.cells (sec.map B).toArray 22)) o1
    rw [ho1] at this ⊢
    simpa [HB] using this
  rw [ho1] at hA hbl hH
  clear ho1 o1
  have hKF1 := hKF.below hbl (Nat.le_refl _)
  have hKT1 := hKT.below hbl (Nat.le_refl _)
  obtain ⟨N, hN⟩ : ∃ N, min n4 300 = N := ⟨_, rfl⟩
  obtain ⟨P, hP⟩ : ∃ P, xs.take N = P := ⟨_, rfl⟩
  have hPl : P.length = N := by have := BS.len hx; rw [← hP, List.length_take]; omega
  obtain ⟨M, hMe⟩ : ∃ M, min n5 60 = M := ⟨_, rfl⟩
  obtain ⟨Q, hQ⟩ : ∃ Q, ys.take M = Q := ⟨_, rfl⟩
  have hQl : Q.length = M := by have := BS.len hy; rw [← hQ, List.length_take]; omega
  obtain ⟨ka, kb, kc, hks⟩ := KS_ex sec
  have hkl := hks.len
  have hkal := hks.ha.len
  have hkbl := hks.hb.len
  have hkcl := hks.hc.len
  obtain ⟨D, hDe⟩ : ∃ D, ka ++ kb ++ kc = D := ⟨_, rfl⟩
  have Hdraw := Lib.hid (fun w' (h : KT w') => draw_any w' hsl hks h)
  rw [hDe] at hkl Hdraw
  have Hcut := Lib.hid (fun w' (h : BS w' a4 n4 c4 xs) => cutP w' h 300 300 N rfl (by omega) hN hP)
  have Hcuu := Lib.hid (fun w' (h : BS w' a5 n5 c5 ys) => cutP w' h 60 60 M rfl (by omega) hMe hQ)
  have Hia := Lib.hid (show (Tryd.prog.info? 22).map (·.size) = some (sec.map B).length by rw [List.length_map, hsl]; kernel_rfl)
  have hN1 : N ≤ 300 := by omega
  have hM1 : M ≤ 60 := by omega
  obtain ⟨ac, hac⟩ : ∃ ac, ak % 1152921504606846976 = ac := ⟨_, rfl⟩
  have haci : (ak : Int) % 1152921504606846976 = (ac : Int) := by omega
  have hac1 : ac < 1152921504606846976 := by omega
  have HX := Lib.hid hx
  have HY := Lib.hid hy
  have HKT := Lib.hid hKT
  have HKG := Lib.hid hKG
  have HDe := Lib.hid hDe
  have HT := Lib.hid ht
  have HF := Lib.hid hf
  clear hx hy hN hP hMe hQ hks hKF hKT hKG hac hDe ht hf
  go_enter Tryd.func5, Tryd.ntmps5
  go_upto_region 1 with (fail)
  generalize (World.alloc _ _) = W1 at *
  have l0 := hA.lt
  have l1 := hH.lt
  have hbs := hbl.size
  have Haw := Lib.hid (awake06 W1 hKF1 hKT1)
  have HB1 := Lib.hid hbl
  have HA1 := Lib.hid hA
  have HH1 := Lib.hid hH
  have HX1 := Lib.hid (RS.below HX.out hbl (Nat.le_refl _))
  have HY1 := Lib.hid (RS.below HY.out hbl (Nat.le_refl _))
  have HT1 := Lib.hid (RS.below HT.out hbl (Nat.le_refl _))
  have HF1 := Lib.hid (RS.below HF.out hbl (Nat.le_refl _))
  clear hbl hA hH hKF1 hKT1
  go_upto_region 3 with (go_at_call 8; refine Haw.out.mono ?_; rintro x w2 ⟨rfl, B2⟩)
  have hH2 := HH1.out.grown (grown_of_below (row := none) B2) (by simp)
  have q2 := hH2.cells
  have HH2 := Lib.hid hH2
  have HA2 := Lib.hid (HA1.out.bl B2 l0)
  have HB2 := Lib.hid (HB1.out.trans (B2.mono hbs))
  have HX2 := Lib.hid (RS.below HX1.out B2 (Nat.le_refl _))
  have HY2 := Lib.hid (RS.below HY1.out B2 (Nat.le_refl _))
  have HT2 := Lib.hid (RS.below HT1.out B2 (Nat.le_refl _))
  have HF2 := Lib.hid (RS.below HF1.out B2 (Nat.le_refl _))
  have Hfew := Lib.hid (few_any w2 l lv ph HT2.out HF2.out)
  have z2 := hH2.lt
  clear hH2 HA1 HB1 HH1 HX1 HY1 HT1 HF1 Haw
  go_upto_region 4 with (first
    | (go_at_call 23; (with_reducible refine Hfew.out.mono ?_); rintro x w3 ⟨a6, c6, a7, c7, rfl, g1, g2, B3⟩; have Hx3 := Lib.hid (RS.below HX2.out B3 (Nat.le_refl _)))
    | (go_at_call 9; (with_reducible refine (Hcut.out _ Hx3.out).mono ?_); rintro x w4 ⟨a8, c8, rfl, o8, B4⟩; have Hy4 := Lib.hid (RS.below HY2.out (B3.trans (B4.mono B3.size)) (Nat.le_refl _)))
    | (go_at_call 9; (with_reducible refine (Hcuu.out _ Hy4.out).mono ?_); rintro x w5 ⟨a9, c9, rfl, o9, B5⟩; have hH5 := (HH2.out.grown (grown_of_below (row := none) (B3.trans ((B4.trans (B5.mono B4.size)).mono B3.size))) (by simp)))
    | (refine L_storeH rfl _ _ rfl rfl rfl rfl rfl hH5 ?_; intro w6 hH6 hg6))
  have b35 := B3.trans ((B4.trans (B5.mono B4.size)).mono B3.size)
  have b25 := HB2.out.trans (b35.mono HB2.out.size)
  have hb6 := b25.grown hg6 b25.size (fun k hk => by cases hk; omega)
  have hA6 := (HA2.out.bl b35 HA2.out.lt).grown hg6 (by simp)
  have z3 := B3.size
  have z4 := B4.size
  have hT6 := RS.grown (RS.below g1.rs (B4.trans (B5.mono B4.size)) (Nat.le_refl _)) hg6 (fun ad had h => by have := (g1.base_le had).1; simp at this h; omega)
  have hF6 := RS.grown (RS.below g2.rs (B4.trans (B5.mono B4.size)) (Nat.le_refl _)) hg6 (fun ad had h => by have := (g2.base_le had).1; simp at this h; omega)
  have hP6 : BS w6 a8 N c8 P := RS.grown (RS.below o8.rs B5 (Nat.le_refl _)) hg6 (fun ad had h => by have := (o8.base_le had).1; simp at this h; omega)
  have hQ6 : BS w6 a9 M c9 Q := RS.grown o9.rs hg6 (fun ad had h => by have := (o9.base_le had).1; simp at this h; omega)
  obtain ⟨tn, htn⟩ : ∃ tn, min n 30 = tn := ⟨_, rfl⟩
  obtain ⟨fn, hfn⟩ : ∃ fn, min m 30 = fn := ⟨_, rfl⟩
  rw [htn] at hT6 hH6
  rw [hfn] at hF6 hH6
  rw [← List.map_take] at hT6 hF6
  obtain ⟨ts, hts⟩ : ∃ ts, t.take tn = ts := ⟨_, rfl⟩
  obtain ⟨fs, hfs⟩ : ∃ fs, f.take fn = fs := ⟨_, rfl⟩
  rw [hts] at hT6
  rw [hfs] at hF6
  have htl : ts.length = tn := BS.len hT6
  have hfl : fs.length = fn := BS.len hF6
  obtain ⟨G, hG⟩ : ∃ G, W.heap.size + 1 = G := ⟨_, rfl⟩
  rw [hG] at hH6 ⊢
  have lG := hH6.lt
  have lA := hA6.lt
  have lAG : W.heap.size < G := by omega
  have HH6 := Lib.hid hH6
  have HA6 := Lib.hid hA6
  have HT6 := Lib.hid hT6
  have HF6 := Lib.hid hF6
  have HP6 := Lib.hid hP6
  have HQ6 := Lib.hid hQ6
  have HB6 := Lib.hid hb6
  have HKT6 := Lib.hid (HKT.out.below hb6 (Nat.le_refl _))
  have HKG6 := Lib.hid (KG.below HKG.out hb6)
  clear b35 b25 hb6 hA6 hT6 hF6 hP6 hQ6 hH6 hg6 hH5 g1 g2 o8 o9 B3 B4 B5 B2 z3 z4 Hx3 Hy4 HH2 HA2 HB2 HX2 HY2 HT2 HF2 Hfew HX HY HT HF HKT HKG Hcut Hcuu hts hfs htn hfn hG q2 z2 hbs l0 l1
  go_upto_region 5 with (fail)
  rw [haci]
  have hw1 : IntKind.u64.wrap ((ac : Int) + 1) = (ac : Int) + 1 := IntWalk.u64_in _ (by omega)
  have hw2 : IntKind.u64.wrap ((ac : Int) + 1 + (far : Int)) = (ac : Int) + 1 + (far : Int) := IntWalk.u64_in _ (by omega)
  have hw3 : IntKind.u64.wrap (far : Int) = (far : Int) := IntWalk.u64_in _ (by omega)
  go_upto_region 6 with (fail)
  have hpi : (ac : Int) + 1 + (far : Int) = ((ac + (far + 1) : Nat) : Int) := by omega
  rw [hpi]
  have hnd := need_any w6 ac (far + 1) hac1 (by omega)
  have hS1 := (needN_bd (far + 1)).1
  have hS4 := (needN_bd (far + 1)).2
  have hSf := needN_far (far + 1) (by omega)
  obtain ⟨S, hS⟩ : ∃ S, needN (far + 1) = S := ⟨_, rfl⟩
  rw [hS] at hnd hS1 hS4 hSf
  obtain ⟨pn, hpn⟩ : ∃ pn, ac + (far + 1) = pn := ⟨_, rfl⟩
  rw [hpn] at hnd ⊢
  have hpa : ac < pn := by omega
  have hpd : pn - ac ≤ 256 ^ S / 2 := by rw [← hpn, Nat.add_sub_cancel_left]; exact hSf
  have hpu : pn < 1152921504606912513 := by omega
  have HPD := Lib.hid hpd
  have Hnd := Lib.hid hnd
  clear hnd hSf hS hpn hpi hpd hw1 hw2 hw3 haci
  go_upto_region 7 with (go_at_call 24; refine Hnd.out.mono ?_; rintro x w7 ⟨rfl, B7⟩)
  have hA7 := HA6.out.bl B7 lA
  have rA7 := hA7.rng
  have HKT7 := Lib.hid (HKT6.out.below B7 (Nat.le_refl _))
  clear hA7 Hnd
  go_upto_region 8 with (first
    | (refine wpList_load_mid rfl _ _ rfl _ _ rfl (sec.map B) _ rA7 Tryd.underlying22 rfl Hia.out ?_)
    | (go_at_call 14; refine (Hdraw.out _ HKT7.out).mono ?_; rintro x w8 ⟨rfl, B8⟩)
    | (refine L_storeA rfl _ _ _ rfl rfl rfl (AB_zeros35 _ rfl) k76 (by simp) hkl ?_; intro w9 hD9 hg9))
  have z8 := B8.size
  have b79 := (B8.alloc z8 _).grown hg9 (by simp; omega) (fun k hk => by cases hk; exact z8)
  have b9 := B7.trans (b79.mono B7.size)
  obtain ⟨gk, hgk⟩ : ∃ g, w8.heap.size = g := ⟨_, rfl⟩
  rw [hgk] at hD9 z8 ⊢
  have rD := hD9.rng
  have lgk := hD9.lt
  have hH9 := HH6.out.grown (grown_of_below (row := none) b9) (by simp)
  have lG9 := hH9.lt
  have hGk : G ≠ gk := by have := B7.size; omega
  have HH9 := Lib.hid hH9
  have HD9 := Lib.hid hD9
  have HT9 := Lib.hid (RS.below HT6.out b9 (Nat.le_refl _))
  have HF9 := Lib.hid (RS.below HF6.out b9 (Nat.le_refl _))
  have HP9 := Lib.hid (RS.below HP6.out b9 (Nat.le_refl _))
  have HQ9 := Lib.hid (RS.below HQ6.out b9 (Nat.le_refl _))
  have HB9 := Lib.hid (HB6.out.trans (b9.mono HB6.out.size))
  have HKG9 := Lib.hid (KG.below HKG6.out b9)
  have hiD := Lib.hid (show (Tryd.prog.info? 35).map (·.size) = some (D.map B).length by rw [List.length_map, hkl]; exact k76)
  have qq9 := hH9.cells
  clear b79 b9 hD9 hH9 hg9 B8 B7 hgk rA7 HKT7 Hdraw HH6 HA6 HT6 HF6 HP6 HQ6 HB6 HKT6 HKG6 lA lAG lG Hia z8
  have huN : N ≤ 65536 := by omega
  cases hr : rightS l lv ph tn fn with
  | false =>
    by_cases hs4 : (N : Int) + (S : Int) < 4
    · have Hc := Lib.hid (pclose_short (D := D) (l := l) (lv := lv) (ph := ph) (a := a8) (ta := a6) (fa := a7) (n := N) (c := c8) (tn := tn) (tc := c6) (fn := fn) (fc := c7) (S := S) (pn := pn) w9 huN (by omega) hS1 hS4 (by omega))
      go_upto_region 9 with (first
        | (refine wpList_load_mid rfl _ _ rfl _ _ rfl (D.map B) _ rD Tryd.underlying35 rfl hiD.out ?_)
        | (go_at_call 25; refine Hc.out.mono ?_; rintro x w10 ⟨rfl, B10⟩))
      have hH10 := HH9.out.grown (grown_of_below (row := none) B10) (by simp)
      have q10 := hH10.cells
      have hrt := right_any w10 l lv ph (a := a6) (b := a7) (n := tn) (c := c6) (m := fn) (k := c7)
      rw [hr] at hrt
      have Hrt := Lib.hid hrt
      clear hH10 hrt qq9 hr
      go_wp2_with (go_at_call 26; refine Hrt.out.mono ?_; rintro x w11 ⟨rfl, B11⟩)
      go_ret
      exact ⟨rfl, HB9.out.trans ((B10.trans (B11.mono B10.size)).mono HB9.out.size)⟩
    · have Hc := Lib.hid (pclose_bad (D := D) (l := l) (lv := lv) (ph := ph) (a := a8) (ta := a6) (fa := a7) (n := N) (c := c8) (tn := tn) (tc := c6) (fn := fn) (fc := c7) (S := S) (pn := pn) w9 hN1 (by omega) hS1 hS4 (by omega) hr)
      go_upto_region 9 with (first
        | (refine wpList_load_mid rfl _ _ rfl _ _ rfl (D.map B) _ rD Tryd.underlying35 rfl hiD.out ?_)
        | (go_at_call 25; refine Hc.out.mono ?_; rintro x w10 ⟨rfl, B10⟩))
      have hH10 := HH9.out.grown (grown_of_below (row := none) B10) (by simp)
      have q10 := hH10.cells
      have hrt := right_any w10 l lv ph (a := a6) (b := a7) (n := tn) (c := c6) (m := fn) (k := c7)
      rw [hr] at hrt
      have Hrt := Lib.hid hrt
      clear hH10 hrt qq9 hr
      go_wp2_with (go_at_call 26; refine Hrt.out.mono ?_; rintro x w11 ⟨rfl, B11⟩)
      go_ret
      exact ⟨rfl, HB9.out.trans ((B10.trans (B11.mono B10.size)).mono HB9.out.size)⟩
  | true =>
    by_cases hs4 : (N : Int) + (S : Int) < 4
    · have Hc := Lib.hid (pclose_short (D := D) (l := l) (lv := lv) (ph := ph) (a := a8) (ta := a6) (fa := a7) (n := N) (c := c8) (tn := tn) (tc := c6) (fn := fn) (fc := c7) (S := S) (pn := pn) w9 huN (by omega) hS1 hS4 (by omega))
      go_upto_region 9 with (first
        | (refine wpList_load_mid rfl _ _ rfl _ _ rfl (D.map B) _ rD Tryd.underlying35 rfl hiD.out ?_)
        | (go_at_call 25; refine Hc.out.mono ?_; rintro x w10 ⟨rfl, B10⟩))
      have hH10 := HH9.out.grown (grown_of_below (row := none) B10) (by simp)
      have q10 := hH10.cells
      have hrt := right_any w10 l lv ph (a := a6) (b := a7) (n := tn) (c := c6) (m := fn) (k := c7)
      rw [hr] at hrt
      have Hrt := Lib.hid hrt
      clear hH10 hrt qq9 hr
      go_wp2_with (go_at_call 26; refine Hrt.out.mono ?_; rintro x w11 ⟨rfl, B11⟩)
      go_ret
      exact ⟨rfl, HB9.out.trans ((B10.trans (B11.mono B10.size)).mono HB9.out.size)⟩
    · obtain ⟨H, hby, hH1, hH2, hop⟩ := good_head w9 l lv ph hr HT9.out HF9.out HKG9.out hPl hN1 hS1 hS4 (by omega) hpa HPD.out (by omega)
      obtain ⟨nn, cl, mm, R, hcp⟩ := CPR_ex ka kb kc H P S pn
      have hRl := hcp.len
      have hclose := pclose_any w9 hkal hkbl hkcl HP9.out huN (by omega) hS1 hS4 (by omega) hH1 hH2 hby hcp
      have hopr := hop ka kb kc nn cl mm R hcp
      rw [HDe.out] at hclose
      obtain ⟨r, hre⟩ : ∃ r, R.length = r := ⟨_, rfl⟩
      rw [hre] at hclose
      have hru : r ≤ 1400 := by omega
      have Hc := Lib.hid hclose
      have HOP := Lib.hid hopr
      have hu76 := Tryd.underlying35
      have hiD' := hiD.out
      clear hby hH1 hH2 hop hcp hRl hclose hopr hr hS1 hS4
      go_upto_region 9 with (first
        | (refine wpList_load_mid rfl _ _ rfl _ _ rfl (D.map B) _ rD Tryd.underlying35 rfl hiD.out ?_)
        | (go_at_call 25; refine Hc.out.mono ?_; rintro x w10 ⟨a10, c10, rfl, o10, B10⟩))
      have hH10 := HH9.out.grown (grown_of_below (row := none) B10) (by simp)
      have q10 := hH10.cells
      obtain ⟨V, hV⟩ : ∃ V, w10.drew = V := ⟨_, rfl⟩
      have hD10 := HD9.out.bl B10 lgk
      have hT10 := RS.below HT9.out B10 (Nat.le_refl _)
      have hF10 := RS.below HF9.out B10 (Nat.le_refl _)
      have hP10 := RS.below HP9.out B10 (Nat.le_refl _)
      have hQ10 := RS.below HQ9.out B10 (Nat.le_refl _)
      have hK10 := KG.below HKG9.out B10
      have hB10 := HB9.out.trans (B10.mono HB9.out.size)
      have hRV : BS V a10 r c10 R := by rw [← hV, ← hre]; rw [← hre] at o10; exact o10.rs
      have hDV : AB V gk 35 D := by rw [← hV]; exact hD10
      have hHV : HB V G l lv ph (.slice a6 tn c6) (.slice a7 fn c7) := by rw [← hV]; exact hH10
      have HTV := Lib.hid (show BS V a6 tn c6 ts by rw [← hV]; exact hT10)
      have HFV := Lib.hid (show BS V a7 fn c7 fs by rw [← hV]; exact hF10)
      have HPV := Lib.hid (show BS V a8 N c8 P by rw [← hV]; exact hP10)
      have HQV := Lib.hid (show BS V a9 M c9 Q by rw [← hV]; exact hQ10)
      have HKV := Lib.hid (show KG V by rw [← hV]; exact hK10)
      have HBV := Lib.hid (show Below W.heap.size W V by rw [← hV]; exact hB10.drew)
      have b0 : Below V.heap.size V V := Below.refl _ _
      have rDV := hDV.rng
      have lgV := hDV.lt
      have lGV := hHV.lt
      have HRV := Lib.hid hRV
      have HDV := Lib.hid hDV
      have HHV := Lib.hid hHV
      clear hD10 hT10 hF10 hP10 hQ10 hK10 hB10 hH10 hRV hDV hHV HT9 HF9 HP9 HQ9 HKG9 HB9 HD9 HH9 B10 o10 rD Hc qq9
      cases l with
      | true =>
        have hoo := HOP.out Q (fun h => by cases h)
        have Hop := Lib.hid (fun (v : World) (a : Option Addr) (n c : Nat) (hn : n ≤ 1073741824) (h : BS v a n c (R ++ Q)) (hk : KG v) => popen_back v (by omega) hkal hkbl hkcl h hk hn hoo.1 hoo.2.1)
        rw [HDe.out, hPl, hQl] at Hop
        dsimp only at Hop
        rw [hoo.2.2] at Hop
        clear hoo HOP
        go_upto_region 13 with (fail)
        refine wp_region_held_drew (S := fun w' => w'.rangeAt gk 0 (D.map B)) (by kernel_rfl) (by rw [hV]; exact rDV) (fun hHeld => ?_)
        rw [hV] at hHeld ⊢
        refine wpAnyH_take (i := 0) rfl (by kernel_rfl) (by kernel_rfl) (by kernel_rfl) (fun _ _ _ h => h) (yieldsIf_load_mid (by rfl) _ _ rfl _ _ rfl _ _ (fun w h => h) hu76 rfl hiD') hHeld ?_
        try simp only [Act.put, List.getElem_toArray, List.getElem_cons_zero, List.setIfInBounds_toArray, List.set_cons_zero, List.set_cons_succ]
        refine wpAnyH_take (i := 1) (v := .slice a10 r c10) rfl (by kernel_rfl) (by kernel_rfl) (by kernel_rfl) (fun _ _ _ h => h) (Or.inl ⟨by rfl, fun w h => by go_simp⟩) hHeld ?_
        try simp only [Act.put, List.getElem_toArray, List.getElem_cons_succ, List.getElem_cons_zero, List.setIfInBounds_toArray, List.set_cons_zero, List.set_cons_succ]
        refine wpAnyH_take (i := 3) (v := .slice a9 M c9) rfl (by kernel_rfl) (by kernel_rfl) (by kernel_rfl) (fun _ _ _ h => h) (Or.inl ⟨by rfl, fun w h => by go_simp⟩) hHeld ?_
        try simp only [Act.put, List.getElem_toArray, List.getElem_cons_succ, List.getElem_cons_zero, List.setIfInBounds_toArray, List.set_cons_zero, List.set_cons_succ]
        refine wpAnyH_take (i := 5) (v := .int .u64 (ac : Int)) rfl (by kernel_rfl) (by kernel_rfl) (by kernel_rfl) (fun _ _ _ h => h) (Or.inl ⟨by rfl, fun w h => by go_simp⟩) hHeld ?_
        try simp only [Act.put, List.getElem_toArray, List.getElem_cons_succ, List.getElem_cons_zero, List.setIfInBounds_toArray, List.set_cons_zero, List.set_cons_succ]
        refine (fun (hk : Hid (∀ (w : World) (gh : Nat) (ta : Option Addr) (tm tc : Nat) (fa : Option Addr) (fm fc : Nat) (a11 : Option Addr) (c11 : Nat) (a12 : Option Addr) (c12 : Nat) (a13 : Option Addr) (c13 : Nat) (a14 : Option Addr) (c14 : Nat), PBJ V w gh ta tm tc fa fm fc ts fs a13 N c13 P a14 M c14 Q → (?P1 : World → Nat → Option Addr → Nat → Nat → Option Addr → Nat → Nat → Option Addr → Nat → Option Addr → Nat → Option Addr → Nat → Option Addr → Nat → Prop) w gh ta tm tc fa fm fc a11 c11 a12 c12 a13 c13 a14 c14)) => ?main1) (Lib.hid ?rest1)
        case main1 =>
          refine wpAnyH_ready (rs := [2, 13]) (by kernel_rfl) (by simp) (AllReadyH.cons rfl (fun K hK => ?q0a) (AllReadyH.cons rfl (fun K hK => ?q0b) AllReadyH.nil))
          case q0a =>
            go_simp
            go_at_call 18
            refine (copy_any V (RS.below HRV.out b0 (Nat.le_refl _)) (by omega)).mono ?_
            rintro x v2 ⟨a11, c11, rfl, o11, B11⟩
            have b2 := b0.trans (B11.mono b0.size)
            have o11 := o11.mono b0.size
            refine hK.out _ _ (HDV.out.bl b2 lgV).rng (fun hHeld => ?_)
            clear hK K
            try simp only [Act.put, List.getElem_toArray, List.getElem_cons_succ, List.getElem_cons_zero, List.setIfInBounds_toArray, List.set_cons_zero, List.set_cons_succ]
            refine wpAnyH_ready (rs := [4, 13]) (by kernel_rfl) (by simp) (AllReadyH.cons rfl (fun K hK => ?q2a) (AllReadyH.cons rfl (fun K hK => ?q2b) AllReadyH.nil))
            case q2a =>
              have hy := RS.below HQV.out b2 (Nat.le_refl _)
              refine S_append tB o11 hy _ _ rfl rfl rfl rfl (by omega) (by unfold maxLen; omega) b2.size ?_
              intro a12 c12 v4 o12 g12
              have b4 := below_own b2 o11 g12 (Nat.le_refl _) b2.size
              have bs12 : BS v4 a12 (r + M) c12 (R ++ Q) := by unfold BS; rw [List.map_append]; exact o12.rs
              refine hK.out _ _ (HDV.out.bl b4 lgV).rng (fun hHeld => ?_)
              clear hK K
              try simp only [Act.put, List.getElem_toArray, List.getElem_cons_succ, List.getElem_cons_zero, List.setIfInBounds_toArray, List.set_cons_zero, List.set_cons_succ]
              refine wpAnyH_ready (rs := [6, 13]) (by kernel_rfl) (by simp) (AllReadyH.cons rfl (fun K hK => ?q4a) (AllReadyH.cons rfl (fun K hK => ?q4b) AllReadyH.nil))
              case q4a =>
                go_simp
                go_at_call 19
                refine (Hop.out v4 _ _ _ (by omega) bs12 (KG.below HKV.out b4)).mono ?_
                rintro x v6 ⟨ta, tm, tc, fa, fm, fc, a13, c13, a14, c14, rfl, hT3, hF3, h13, h14, B2⟩
                have b6 := b4.trans (B2.mono b4.size)
                refine hK.out _ _ (HDV.out.bl b6 lgV).rng (fun hHeld => ?_)
                clear hK K
                try simp only [Act.put, List.getElem_toArray, List.getElem_cons_succ, List.getElem_cons_zero, List.setIfInBounds_toArray, List.set_cons_zero, List.set_cons_succ]
                refine wpAnyH_take (i := 7) (v := .tuple #[.agg #[.bool true, .int .i64 lv, .bool ph, .slice ta tm tc, .slice fa fm fc], .int .u64 (pn : Int), .slice a13 N c13, .slice a14 M c14, .int .i64 0]) rfl (by kernel_rfl) (by kernel_rfl) (by kernel_rfl) (fun _ _ _ h => h) (Or.inl ⟨by rfl, fun w h => by go_simp⟩) hHeld ?_
                try simp only [Act.put, List.getElem_toArray, List.getElem_cons_succ, List.getElem_cons_zero, List.setIfInBounds_toArray, List.set_cons_zero, List.set_cons_succ]
                refine wpAnyH_take (i := 8) (v := .agg #[.bool true, .int .i64 lv, .bool ph, .slice ta tm tc, .slice fa fm fc]) rfl (by kernel_rfl) (by kernel_rfl) (by kernel_rfl) (fun _ _ _ h => h) (Or.inl ⟨by rfl, fun w h => by go_simp⟩) hHeld ?_
                try simp only [Act.put, List.getElem_toArray, List.getElem_cons_succ, List.getElem_cons_zero, List.setIfInBounds_toArray, List.set_cons_zero, List.set_cons_succ]
                refine wpAnyH_take (i := 9) (v := .int .u64 (pn : Int)) rfl (by kernel_rfl) (by kernel_rfl) (by kernel_rfl) (fun _ _ _ h => h) (Or.inl ⟨by rfl, fun w h => by go_simp⟩) hHeld ?_
                try simp only [Act.put, List.getElem_toArray, List.getElem_cons_succ, List.getElem_cons_zero, List.setIfInBounds_toArray, List.set_cons_zero, List.set_cons_succ]
                refine wpAnyH_take (i := 10) (v := .slice a13 N c13) rfl (by kernel_rfl) (by kernel_rfl) (by kernel_rfl) (fun _ _ _ h => h) (Or.inl ⟨by rfl, fun w h => by go_simp⟩) hHeld ?_
                try simp only [Act.put, List.getElem_toArray, List.getElem_cons_succ, List.getElem_cons_zero, List.setIfInBounds_toArray, List.set_cons_zero, List.set_cons_succ]
                refine wpAnyH_take (i := 11) (v := .slice a14 M c14) rfl (by kernel_rfl) (by kernel_rfl) (by kernel_rfl) (fun _ _ _ h => h) (Or.inl ⟨by rfl, fun w h => by go_simp⟩) hHeld ?_
                try simp only [Act.put, List.getElem_toArray, List.getElem_cons_succ, List.getElem_cons_zero, List.setIfInBounds_toArray, List.set_cons_zero, List.set_cons_succ]
                refine wpAnyH_take (i := 12) (v := .int .i64 0) rfl (by kernel_rfl) (by kernel_rfl) (by kernel_rfl) (fun _ _ _ h => h) (Or.inl ⟨by rfl, fun w h => by go_simp⟩) hHeld ?_
                try simp only [Act.put, List.getElem_toArray, List.getElem_cons_succ, List.getElem_cons_zero, List.setIfInBounds_toArray, List.set_cons_zero, List.set_cons_succ]
                refine wpAnyH_ready (rs := [13]) (by kernel_rfl) (by simp) (AllReadyH.cons rfl (fun K hK => ?_) AllReadyH.nil)
                go_simp
                have hO := HB_new v6
                have b8 := b6.alloc b6.size (.cells #[.bool false, .int .i64 0, .bool false, .slice none 0 0, .slice none 0 0] 43)
                have hT3 := RS.alloc hT3 (.cells #[.bool false, .int .i64 0, .bool false, .slice none 0 0, .slice none 0 0] 43)
                have hF3 := RS.alloc hF3 (.cells #[.bool false, .int .i64 0, .bool false, .slice none 0 0, .slice none 0 0] 43)
                have h13 := RS.alloc h13 (.cells #[.bool false, .int .i64 0, .bool false, .slice none 0 0, .slice none 0 0] 43)
                have h14 := RS.alloc h14 (.cells #[.bool false, .int .i64 0, .bool false, .slice none 0 0, .slice none 0 0] 43)
                refine hK.out _ _ (HDV.out.bl b8 lgV).rng (fun hHeld => ?_)
                clear hK K
                try simp only [Act.put, List.getElem_toArray, List.getElem_cons_succ, List.getElem_cons_zero, List.setIfInBounds_toArray, List.set_cons_zero, List.set_cons_succ]
                generalize (World.alloc _ _) = v8 at *
                obtain ⟨gh, hgh, lgh⟩ : ∃ gh, v6.heap.size = gh ∧ V.heap.size ≤ gh := ⟨_, rfl, b6.size⟩
                rw [hgh] at hO ⊢
                exact hk.out _ gh ta tm tc fa fm fc a11 c11 a12 c12 a13 c13 a14 c14 ⟨b8, hO, hT3, hF3, h13, h14, lgh⟩
              case q4b =>
                go_simp
                have hO := HB_new v4
                have b9 := b4.alloc b4.size (.cells #[.bool false, .int .i64 0, .bool false, .slice none 0 0, .slice none 0 0] 43)
                have bs12 := RS.alloc bs12 (.cells #[.bool false, .int .i64 0, .bool false, .slice none 0 0, .slice none 0 0] 43)
                refine hK.out _ _ (HDV.out.bl b9 lgV).rng (fun hHeld => ?_)
                clear hK K
                try simp only [Act.put, List.getElem_toArray, List.getElem_cons_succ, List.getElem_cons_zero, List.setIfInBounds_toArray, List.set_cons_zero, List.set_cons_succ]
                generalize (World.alloc _ _) = v9 at *
                obtain ⟨gh, hgh, lgh⟩ : ∃ gh, v4.heap.size = gh ∧ V.heap.size ≤ gh := ⟨_, rfl, b4.size⟩
                rw [hgh] at hO ⊢
                refine wpAnyH_ready (rs := [6]) (by kernel_rfl) (by simp) (AllReadyH.cons rfl (fun K hK => ?_) AllReadyH.nil)
                go_simp
                go_at_call 19
                refine (Hop.out v9 _ _ _ (by omega) bs12 (KG.below HKV.out b9)).mono ?_
                rintro x v11 ⟨ta, tm, tc, fa, fm, fc, a13, c13, a14, c14, rfl, hT3, hF3, h13, h14, B2⟩
                have b11 := b9.trans (B2.mono b9.size)
                have hO := hO.grown (grown_of_below (row := none) B2) (by simp)
                refine hK.out _ _ (HDV.out.bl b11 lgV).rng (fun hHeld => ?_)
                clear hK K
                try simp only [Act.put, List.getElem_toArray, List.getElem_cons_succ, List.getElem_cons_zero, List.setIfInBounds_toArray, List.set_cons_zero, List.set_cons_succ]
                refine wpAnyH_take (i := 7) (v := .tuple #[.agg #[.bool true, .int .i64 lv, .bool ph, .slice ta tm tc, .slice fa fm fc], .int .u64 (pn : Int), .slice a13 N c13, .slice a14 M c14, .int .i64 0]) rfl (by kernel_rfl) (by kernel_rfl) (by kernel_rfl) (fun _ _ _ h => h) (Or.inl ⟨by rfl, fun w h => by go_simp⟩) hHeld ?_
                try simp only [Act.put, List.getElem_toArray, List.getElem_cons_succ, List.getElem_cons_zero, List.setIfInBounds_toArray, List.set_cons_zero, List.set_cons_succ]
                refine wpAnyH_take (i := 8) (v := .agg #[.bool true, .int .i64 lv, .bool ph, .slice ta tm tc, .slice fa fm fc]) rfl (by kernel_rfl) (by kernel_rfl) (by kernel_rfl) (fun _ _ _ h => h) (Or.inl ⟨by rfl, fun w h => by go_simp⟩) hHeld ?_
                try simp only [Act.put, List.getElem_toArray, List.getElem_cons_succ, List.getElem_cons_zero, List.setIfInBounds_toArray, List.set_cons_zero, List.set_cons_succ]
                refine wpAnyH_take (i := 9) (v := .int .u64 (pn : Int)) rfl (by kernel_rfl) (by kernel_rfl) (by kernel_rfl) (fun _ _ _ h => h) (Or.inl ⟨by rfl, fun w h => by go_simp⟩) hHeld ?_
                try simp only [Act.put, List.getElem_toArray, List.getElem_cons_succ, List.getElem_cons_zero, List.setIfInBounds_toArray, List.set_cons_zero, List.set_cons_succ]
                refine wpAnyH_take (i := 10) (v := .slice a13 N c13) rfl (by kernel_rfl) (by kernel_rfl) (by kernel_rfl) (fun _ _ _ h => h) (Or.inl ⟨by rfl, fun w h => by go_simp⟩) hHeld ?_
                try simp only [Act.put, List.getElem_toArray, List.getElem_cons_succ, List.getElem_cons_zero, List.setIfInBounds_toArray, List.set_cons_zero, List.set_cons_succ]
                refine wpAnyH_take (i := 11) (v := .slice a14 M c14) rfl (by kernel_rfl) (by kernel_rfl) (by kernel_rfl) (fun _ _ _ h => h) (Or.inl ⟨by rfl, fun w h => by go_simp⟩) hHeld ?_
                try simp only [Act.put, List.getElem_toArray, List.getElem_cons_succ, List.getElem_cons_zero, List.setIfInBounds_toArray, List.set_cons_zero, List.set_cons_succ]
                refine wpAnyH_take (i := 12) (v := .int .i64 0) rfl (by kernel_rfl) (by kernel_rfl) (by kernel_rfl) (fun _ _ _ h => h) (Or.inl ⟨by rfl, fun w h => by go_simp⟩) hHeld ?_
                try simp only [Act.put, List.getElem_toArray, List.getElem_cons_succ, List.getElem_cons_zero, List.setIfInBounds_toArray, List.set_cons_zero, List.set_cons_succ]
                exact hk.out _ gh ta tm tc fa fm fc a11 c11 a12 c12 a13 c13 a14 c14 ⟨b11, hO, hT3, hF3, h13, h14, lgh⟩
            case q2b =>
              go_simp
              have hO := HB_new v2
              have b12 := b2.alloc b2.size (.cells #[.bool false, .int .i64 0, .bool false, .slice none 0 0, .slice none 0 0] 43)
              have hne := OW.newNe o11 (Nat.le_refl v2.heap.size)
              have o11 := o11.alloc (.cells #[.bool false, .int .i64 0, .bool false, .slice none 0 0, .slice none 0 0] 43)
              refine hK.out _ _ (HDV.out.bl b12 lgV).rng (fun hHeld => ?_)
              clear hK K
              try simp only [Act.put, List.getElem_toArray, List.getElem_cons_succ, List.getElem_cons_zero, List.setIfInBounds_toArray, List.set_cons_zero, List.set_cons_succ]
              generalize (World.alloc _ _) = v12 at *
              obtain ⟨gh, hgh, lgh⟩ : ∃ gh, v2.heap.size = gh ∧ V.heap.size ≤ gh := ⟨_, rfl, b2.size⟩
              rw [hgh] at hO hne ⊢
              refine wpAnyH_ready (rs := [4]) (by kernel_rfl) (by simp) (AllReadyH.cons rfl (fun K hK => ?_) AllReadyH.nil)
              have hy := RS.below HQV.out b12 (Nat.le_refl _)
              refine S_append tB o11 hy _ _ rfl rfl rfl rfl (by omega) (by unfold maxLen; omega) b12.size ?_
              intro a12 c12 v14 o12 g12
              have b14 := below_own b12 o11 g12 (Nat.le_refl _) b12.size
              have bs12 : BS v14 a12 (r + M) c12 (R ++ Q) := by unfold BS; rw [List.map_append]; exact o12.rs
              have hO := hO.grown g12 hne
              refine hK.out _ _ (HDV.out.bl b14 lgV).rng (fun hHeld => ?_)
              clear hK K
              try simp only [Act.put, List.getElem_toArray, List.getElem_cons_succ, List.getElem_cons_zero, List.setIfInBounds_toArray, List.set_cons_zero, List.set_cons_succ]
              refine wpAnyH_ready (rs := [6]) (by kernel_rfl) (by simp) (AllReadyH.cons rfl (fun K hK => ?_) AllReadyH.nil)
              go_simp
              go_at_call 19
              refine (Hop.out v14 _ _ _ (by omega) bs12 (KG.below HKV.out b14)).mono ?_
              rintro x v16 ⟨ta, tm, tc, fa, fm, fc, a13, c13, a14, c14, rfl, hT3, hF3, h13, h14, B2⟩
              have b16 := b14.trans (B2.mono b14.size)
              have hO := hO.grown (grown_of_below (row := none) B2) (by simp)
              refine hK.out _ _ (HDV.out.bl b16 lgV).rng (fun hHeld => ?_)
              clear hK K
              try simp only [Act.put, List.getElem_toArray, List.getElem_cons_succ, List.getElem_cons_zero, List.setIfInBounds_toArray, List.set_cons_zero, List.set_cons_succ]
              refine wpAnyH_take (i := 7) (v := .tuple #[.agg #[.bool true, .int .i64 lv, .bool ph, .slice ta tm tc, .slice fa fm fc], .int .u64 (pn : Int), .slice a13 N c13, .slice a14 M c14, .int .i64 0]) rfl (by kernel_rfl) (by kernel_rfl) (by kernel_rfl) (fun _ _ _ h => h) (Or.inl ⟨by rfl, fun w h => by go_simp⟩) hHeld ?_
              try simp only [Act.put, List.getElem_toArray, List.getElem_cons_succ, List.getElem_cons_zero, List.setIfInBounds_toArray, List.set_cons_zero, List.set_cons_succ]
              refine wpAnyH_take (i := 8) (v := .agg #[.bool true, .int .i64 lv, .bool ph, .slice ta tm tc, .slice fa fm fc]) rfl (by kernel_rfl) (by kernel_rfl) (by kernel_rfl) (fun _ _ _ h => h) (Or.inl ⟨by rfl, fun w h => by go_simp⟩) hHeld ?_
              try simp only [Act.put, List.getElem_toArray, List.getElem_cons_succ, List.getElem_cons_zero, List.setIfInBounds_toArray, List.set_cons_zero, List.set_cons_succ]
              refine wpAnyH_take (i := 9) (v := .int .u64 (pn : Int)) rfl (by kernel_rfl) (by kernel_rfl) (by kernel_rfl) (fun _ _ _ h => h) (Or.inl ⟨by rfl, fun w h => by go_simp⟩) hHeld ?_
              try simp only [Act.put, List.getElem_toArray, List.getElem_cons_succ, List.getElem_cons_zero, List.setIfInBounds_toArray, List.set_cons_zero, List.set_cons_succ]
              refine wpAnyH_take (i := 10) (v := .slice a13 N c13) rfl (by kernel_rfl) (by kernel_rfl) (by kernel_rfl) (fun _ _ _ h => h) (Or.inl ⟨by rfl, fun w h => by go_simp⟩) hHeld ?_
              try simp only [Act.put, List.getElem_toArray, List.getElem_cons_succ, List.getElem_cons_zero, List.setIfInBounds_toArray, List.set_cons_zero, List.set_cons_succ]
              refine wpAnyH_take (i := 11) (v := .slice a14 M c14) rfl (by kernel_rfl) (by kernel_rfl) (by kernel_rfl) (fun _ _ _ h => h) (Or.inl ⟨by rfl, fun w h => by go_simp⟩) hHeld ?_
              try simp only [Act.put, List.getElem_toArray, List.getElem_cons_succ, List.getElem_cons_zero, List.setIfInBounds_toArray, List.set_cons_zero, List.set_cons_succ]
              refine wpAnyH_take (i := 12) (v := .int .i64 0) rfl (by kernel_rfl) (by kernel_rfl) (by kernel_rfl) (fun _ _ _ h => h) (Or.inl ⟨by rfl, fun w h => by go_simp⟩) hHeld ?_
              try simp only [Act.put, List.getElem_toArray, List.getElem_cons_succ, List.getElem_cons_zero, List.setIfInBounds_toArray, List.set_cons_zero, List.set_cons_succ]
              exact hk.out _ gh ta tm tc fa fm fc a11 c11 a12 c12 a13 c13 a14 c14 ⟨b16, hO, hT3, hF3, h13, h14, lgh⟩
          case q0b =>
            go_simp
            have hO := HB_new V
            have b17 := b0.alloc b0.size (.cells #[.bool false, .int .i64 0, .bool false, .slice none 0 0, .slice none 0 0] 43)
            refine hK.out _ _ (HDV.out.bl b17 lgV).rng (fun hHeld => ?_)
            clear hK K
            try simp only [Act.put, List.getElem_toArray, List.getElem_cons_succ, List.getElem_cons_zero, List.setIfInBounds_toArray, List.set_cons_zero, List.set_cons_succ]
            generalize (World.alloc _ _) = v17 at *
            obtain ⟨gh, hgh, lgh⟩ : ∃ gh, V.heap.size = gh ∧ V.heap.size ≤ gh := ⟨_, rfl, b0.size⟩
            rw [hgh] at hO ⊢
            refine wpAnyH_ready (rs := [2]) (by kernel_rfl) (by simp) (AllReadyH.cons rfl (fun K hK => ?_) AllReadyH.nil)
            go_simp
            go_at_call 18
            refine (copy_any v17 (RS.below HRV.out b17 (Nat.le_refl _)) (by omega)).mono ?_
            rintro x v19 ⟨a11, c11, rfl, o11, B11⟩
            have b19 := b17.trans (B11.mono b17.size)
            have hne := OW.oldNe o11 hO.lt
            have hO := hO.grown (grown_of_below (row := none) B11) (by simp)
            have o11 := o11.mono b17.size
            refine hK.out _ _ (HDV.out.bl b19 lgV).rng (fun hHeld => ?_)
            clear hK K
            try simp only [Act.put, List.getElem_toArray, List.getElem_cons_succ, List.getElem_cons_zero, List.setIfInBounds_toArray, List.set_cons_zero, List.set_cons_succ]
            refine wpAnyH_ready (rs := [4]) (by kernel_rfl) (by simp) (AllReadyH.cons rfl (fun K hK => ?_) AllReadyH.nil)
            have hy := RS.below HQV.out b19 (Nat.le_refl _)
            refine S_append tB o11 hy _ _ rfl rfl rfl rfl (by omega) (by unfold maxLen; omega) b19.size ?_
            intro a12 c12 v21 o12 g12
            have b21 := below_own b19 o11 g12 (Nat.le_refl _) b19.size
            have bs12 : BS v21 a12 (r + M) c12 (R ++ Q) := by unfold BS; rw [List.map_append]; exact o12.rs
            have hO := hO.grown g12 hne
            refine hK.out _ _ (HDV.out.bl b21 lgV).rng (fun hHeld => ?_)
            clear hK K
            try simp only [Act.put, List.getElem_toArray, List.getElem_cons_succ, List.getElem_cons_zero, List.setIfInBounds_toArray, List.set_cons_zero, List.set_cons_succ]
            refine wpAnyH_ready (rs := [6]) (by kernel_rfl) (by simp) (AllReadyH.cons rfl (fun K hK => ?_) AllReadyH.nil)
            go_simp
            go_at_call 19
            refine (Hop.out v21 _ _ _ (by omega) bs12 (KG.below HKV.out b21)).mono ?_
            rintro x v23 ⟨ta, tm, tc, fa, fm, fc, a13, c13, a14, c14, rfl, hT3, hF3, h13, h14, B2⟩
            have b23 := b21.trans (B2.mono b21.size)
            have hO := hO.grown (grown_of_below (row := none) B2) (by simp)
            refine hK.out _ _ (HDV.out.bl b23 lgV).rng (fun hHeld => ?_)
            clear hK K
            try simp only [Act.put, List.getElem_toArray, List.getElem_cons_succ, List.getElem_cons_zero, List.setIfInBounds_toArray, List.set_cons_zero, List.set_cons_succ]
            refine wpAnyH_take (i := 7) (v := .tuple #[.agg #[.bool true, .int .i64 lv, .bool ph, .slice ta tm tc, .slice fa fm fc], .int .u64 (pn : Int), .slice a13 N c13, .slice a14 M c14, .int .i64 0]) rfl (by kernel_rfl) (by kernel_rfl) (by kernel_rfl) (fun _ _ _ h => h) (Or.inl ⟨by rfl, fun w h => by go_simp⟩) hHeld ?_
            try simp only [Act.put, List.getElem_toArray, List.getElem_cons_succ, List.getElem_cons_zero, List.setIfInBounds_toArray, List.set_cons_zero, List.set_cons_succ]
            refine wpAnyH_take (i := 8) (v := .agg #[.bool true, .int .i64 lv, .bool ph, .slice ta tm tc, .slice fa fm fc]) rfl (by kernel_rfl) (by kernel_rfl) (by kernel_rfl) (fun _ _ _ h => h) (Or.inl ⟨by rfl, fun w h => by go_simp⟩) hHeld ?_
            try simp only [Act.put, List.getElem_toArray, List.getElem_cons_succ, List.getElem_cons_zero, List.setIfInBounds_toArray, List.set_cons_zero, List.set_cons_succ]
            refine wpAnyH_take (i := 9) (v := .int .u64 (pn : Int)) rfl (by kernel_rfl) (by kernel_rfl) (by kernel_rfl) (fun _ _ _ h => h) (Or.inl ⟨by rfl, fun w h => by go_simp⟩) hHeld ?_
            try simp only [Act.put, List.getElem_toArray, List.getElem_cons_succ, List.getElem_cons_zero, List.setIfInBounds_toArray, List.set_cons_zero, List.set_cons_succ]
            refine wpAnyH_take (i := 10) (v := .slice a13 N c13) rfl (by kernel_rfl) (by kernel_rfl) (by kernel_rfl) (fun _ _ _ h => h) (Or.inl ⟨by rfl, fun w h => by go_simp⟩) hHeld ?_
            try simp only [Act.put, List.getElem_toArray, List.getElem_cons_succ, List.getElem_cons_zero, List.setIfInBounds_toArray, List.set_cons_zero, List.set_cons_succ]
            refine wpAnyH_take (i := 11) (v := .slice a14 M c14) rfl (by kernel_rfl) (by kernel_rfl) (by kernel_rfl) (fun _ _ _ h => h) (Or.inl ⟨by rfl, fun w h => by go_simp⟩) hHeld ?_
            try simp only [Act.put, List.getElem_toArray, List.getElem_cons_succ, List.getElem_cons_zero, List.setIfInBounds_toArray, List.set_cons_zero, List.set_cons_succ]
            refine wpAnyH_take (i := 12) (v := .int .i64 0) rfl (by kernel_rfl) (by kernel_rfl) (by kernel_rfl) (fun _ _ _ h => h) (Or.inl ⟨by rfl, fun w h => by go_simp⟩) hHeld ?_
            try simp only [Act.put, List.getElem_toArray, List.getElem_cons_succ, List.getElem_cons_zero, List.setIfInBounds_toArray, List.set_cons_zero, List.set_cons_succ]
            exact hk.out _ gh ta tm tc fa fm fc a11 c11 a12 c12 a13 c13 a14 c14 ⟨b23, hO, hT3, hF3, h13, h14, lgh⟩
        case rest1 =>
          intro v gh ta tm tc fa fm fc a11 c11 a12 c12 a13 c13 a14 c14 hI
          have hHeld := (HDV.out.bl hI.bl lgV).rng
          refine wpAnyH_ready (rs := [14]) (by kernel_rfl) (by simp) (AllReadyH.cons rfl (fun K hK => ?_) AllReadyH.nil)
          refine S_storeH rfl _ _ rfl rfl rfl rfl rfl hI.hb ?_
          intro v2 hH2 gr2
          have b4 : Below V.heap.size V v2 := hI.bl.grown gr2 hI.bl.size (fun k hk => by cases hk; exact hI.lg)
          refine hK.out _ _ (HDV.out.bl b4 lgV).rng (fun hHeld => ?_)
          clear hK K
          try simp only [Act.put, List.getElem_toArray, List.getElem_cons_succ, List.getElem_cons_zero]
          refine wpAnyH_take (i := 15) (v := .int .u64 (pn : Int)) rfl (by kernel_rfl) (by kernel_rfl) (by kernel_rfl) (fun _ _ _ h => h) (Or.inl ⟨by rfl, fun w h => by go_simp⟩) hHeld ?_
          try simp only [Act.put, List.getElem_toArray, List.getElem_cons_succ, List.getElem_cons_zero, List.setIfInBounds_toArray, List.set_cons_zero, List.set_cons_succ]
          refine wpAnyH_take (i := 16) (v := .slice a13 N c13) rfl (by kernel_rfl) (by kernel_rfl) (by kernel_rfl) (fun _ _ _ h => h) (Or.inl ⟨by rfl, fun w h => by go_simp⟩) hHeld ?_
          try simp only [Act.put, List.getElem_toArray, List.getElem_cons_succ, List.getElem_cons_zero, List.setIfInBounds_toArray, List.set_cons_zero, List.set_cons_succ]
          refine wpAnyH_take (i := 17) (v := .slice a14 M c14) rfl (by kernel_rfl) (by kernel_rfl) (by kernel_rfl) (fun _ _ _ h => h) (Or.inl ⟨by rfl, fun w h => by go_simp⟩) hHeld ?_
          try simp only [Act.put, List.getElem_toArray, List.getElem_cons_succ, List.getElem_cons_zero, List.setIfInBounds_toArray, List.set_cons_zero, List.set_cons_succ]
          refine wpAnyH_take (i := 18) (v := .int .i64 0) rfl (by kernel_rfl) (by kernel_rfl) (by kernel_rfl) (fun _ _ _ h => h) (Or.inl ⟨by rfl, fun w h => by go_simp⟩) hHeld ?_
          try simp only [Act.put, List.getElem_toArray, List.getElem_cons_succ, List.getElem_cons_zero, List.setIfInBounds_toArray, List.set_cons_zero, List.set_cons_succ]
          refine wpAnyH_done (by kernel_rfl) ?_ _
          try simp only [Act.put, List.getElem_toArray, List.getElem_cons_succ, List.getElem_cons_zero]
          have h13 := hI.h13.grownHB hI.hb gr2
          have h14 := hI.h14.grownHB hI.hb gr2
          have hT4 := hI.ht.grownHB hI.hb gr2
          have hF4 := hI.hf.grownHB hI.hb gr2
          have hHG := HHV.out.grown (grown_of_below (row := none) b4) (by simp)
          have hsh := hsame_any v2 true lv ph true lv ph hT4 hF4 (RS.below HTV.out b4 (Nat.le_refl _)) (RS.below HFV.out b4 (Nat.le_refl _)) rfl rfl rfl rfl rfl
          have Hsh := Lib.hid hsh
          have H13 := Lib.hid h13
          have H14 := Lib.hid h14
          have HP4 := Lib.hid (RS.below HPV.out b4 (Nat.le_refl _))
          have HQ4 := Lib.hid (RS.below HQV.out b4 (Nat.le_refl _))
          have HB4 := Lib.hid (HBV.out.trans (b4.mono HBV.out.size))
          have c0 := hH2.cells
          have c1 := hHG.cells
          clear h13 h14 hT4 hF4 hHG hsh b4 hI hH2 gr2 hHeld HRV HDV HHV HTV HFV HPV HQV HKV HBV Hop rDV q10
          go_wp2_with (first
            | (go_at_call 21; (with_reducible refine Hsh.out.mono ?_); rintro x w15 ⟨rfl, B15⟩; have hs3 := same_any w15 (RS.below H13.out B15 (Nat.le_refl _)) (RS.below HP4.out B15 (Nat.le_refl _)); rw [beq_self_eq_true] at hs3; have Hs3 := Lib.hid hs3; clear hs3; have hs5 := same_any w15 (RS.below H14.out B15 (Nat.le_refl _)) (RS.below HQ4.out B15 (Nat.le_refl _)); rw [beq_self_eq_true] at hs5; have Hs5 := Lib.hid hs5; clear hs5)
            | (go_at_call 15; (with_reducible refine Hs3.out.mono ?_); rintro x w16 ⟨rfl, rfl⟩)
            | (go_at_call 15; (with_reducible refine Hs5.out.mono ?_); rintro x w17 ⟨rfl, rfl⟩))
          go_ret
          exact ⟨rfl, HB4.out.trans (B15.mono HB4.out.size)⟩
      | false =>
        have hoo := HOP.out [] (fun _ => rfl)
        have Hop := Lib.hid (fun (v : World) (a : Option Addr) (n c : Nat) (hn : n ≤ 1073741824) (h : BS v a n c (R ++ [])) (hk : KG v) => popen_back v (by omega) hkal hkbl hkcl h hk hn hoo.1 hoo.2.1)
        rw [HDe.out, hPl, List.length_nil] at Hop
        dsimp only at Hop
        rw [hoo.2.2] at Hop
        clear hoo HOP
        go_upto_region 13 with (fail)
        refine wp_region_held_drew (S := fun w' => w'.rangeAt gk 0 (D.map B)) (by kernel_rfl) (by rw [hV]; exact rDV) (fun hHeld => ?_)
        rw [hV] at hHeld ⊢
        refine wpAnyH_take (i := 0) rfl (by kernel_rfl) (by kernel_rfl) (by kernel_rfl) (fun _ _ _ h => h) (yieldsIf_load_mid (by rfl) _ _ rfl _ _ rfl _ _ (fun w h => h) hu76 rfl hiD') hHeld ?_
        try simp only [Act.put, List.getElem_toArray, List.getElem_cons_zero, List.setIfInBounds_toArray, List.set_cons_zero, List.set_cons_succ]
        refine wpAnyH_take (i := 1) (v := .slice a10 r c10) rfl (by kernel_rfl) (by kernel_rfl) (by kernel_rfl) (fun _ _ _ h => h) (Or.inl ⟨by rfl, fun w h => by go_simp⟩) hHeld ?_
        try simp only [Act.put, List.getElem_toArray, List.getElem_cons_succ, List.getElem_cons_zero, List.setIfInBounds_toArray, List.set_cons_zero, List.set_cons_succ]
        refine wpAnyH_take (i := 3) (v := .slice none 0 0) rfl (by kernel_rfl) (by kernel_rfl) (by kernel_rfl) (fun _ _ _ h => h) (Or.inl ⟨by rfl, fun w h => by go_simp⟩) hHeld ?_
        try simp only [Act.put, List.getElem_toArray, List.getElem_cons_succ, List.getElem_cons_zero, List.setIfInBounds_toArray, List.set_cons_zero, List.set_cons_succ]
        refine wpAnyH_take (i := 5) (v := .int .u64 (ac : Int)) rfl (by kernel_rfl) (by kernel_rfl) (by kernel_rfl) (fun _ _ _ h => h) (Or.inl ⟨by rfl, fun w h => by go_simp⟩) hHeld ?_
        try simp only [Act.put, List.getElem_toArray, List.getElem_cons_succ, List.getElem_cons_zero, List.setIfInBounds_toArray, List.set_cons_zero, List.set_cons_succ]
        refine (fun (hk : Hid (∀ (w : World) (gh : Nat) (ta : Option Addr) (tm tc : Nat) (fa : Option Addr) (fm fc : Nat) (a11 : Option Addr) (c11 : Nat) (a12 : Option Addr) (c12 : Nat) (a13 : Option Addr) (c13 : Nat) (a14 : Option Addr) (c14 : Nat), PBJ V w gh ta tm tc fa fm fc ts fs a13 N c13 P a14 0 c14 [] → (?P2 : World → Nat → Option Addr → Nat → Nat → Option Addr → Nat → Nat → Option Addr → Nat → Option Addr → Nat → Option Addr → Nat → Option Addr → Nat → Prop) w gh ta tm tc fa fm fc a11 c11 a12 c12 a13 c13 a14 c14)) => ?main2) (Lib.hid ?rest2)
        case main2 =>
          refine wpAnyH_ready (rs := [2, 13]) (by kernel_rfl) (by simp) (AllReadyH.cons rfl (fun K hK => ?q23a) (AllReadyH.cons rfl (fun K hK => ?q23b) AllReadyH.nil))
          case q23a =>
            go_simp
            go_at_call 18
            refine (copy_any V (RS.below HRV.out b0 (Nat.le_refl _)) (by omega)).mono ?_
            rintro x v25 ⟨a11, c11, rfl, o11, B11⟩
            have b25 := b0.trans (B11.mono b0.size)
            have o11 := o11.mono b0.size
            refine hK.out _ _ (HDV.out.bl b25 lgV).rng (fun hHeld => ?_)
            clear hK K
            try simp only [Act.put, List.getElem_toArray, List.getElem_cons_succ, List.getElem_cons_zero, List.setIfInBounds_toArray, List.set_cons_zero, List.set_cons_succ]
            refine wpAnyH_ready (rs := [4, 13]) (by kernel_rfl) (by simp) (AllReadyH.cons rfl (fun K hK => ?q25a) (AllReadyH.cons rfl (fun K hK => ?q25b) AllReadyH.nil))
            case q25a =>
              have hy := RS.below (show BS V none 0 0 [] from RS_nil V 1) b25 (Nat.le_refl _)
              refine S_append tB o11 hy _ _ rfl rfl rfl rfl (by omega) (by unfold maxLen; omega) b25.size ?_
              intro a12 c12 v27 o12 g12
              have b27 := below_own b25 o11 g12 (Nat.le_refl _) b25.size
              have bs12 : BS v27 a12 (r + 0) c12 (R ++ []) := by unfold BS; rw [List.map_append]; exact o12.rs
              refine hK.out _ _ (HDV.out.bl b27 lgV).rng (fun hHeld => ?_)
              clear hK K
              try simp only [Act.put, List.getElem_toArray, List.getElem_cons_succ, List.getElem_cons_zero, List.setIfInBounds_toArray, List.set_cons_zero, List.set_cons_succ]
              refine wpAnyH_ready (rs := [6, 13]) (by kernel_rfl) (by simp) (AllReadyH.cons rfl (fun K hK => ?q27a) (AllReadyH.cons rfl (fun K hK => ?q27b) AllReadyH.nil))
              case q27a =>
                go_simp
                go_at_call 19
                refine (Hop.out v27 _ _ _ (by omega) bs12 (KG.below HKV.out b27)).mono ?_
                rintro x v29 ⟨ta, tm, tc, fa, fm, fc, a13, c13, a14, c14, rfl, hT3, hF3, h13, h14, B2⟩
                have b29 := b27.trans (B2.mono b27.size)
                refine hK.out _ _ (HDV.out.bl b29 lgV).rng (fun hHeld => ?_)
                clear hK K
                try simp only [Act.put, List.getElem_toArray, List.getElem_cons_succ, List.getElem_cons_zero, List.setIfInBounds_toArray, List.set_cons_zero, List.set_cons_succ]
                refine wpAnyH_take (i := 7) (v := .tuple #[.agg #[.bool false, .int .i64 lv, .bool ph, .slice ta tm tc, .slice fa fm fc], .int .u64 (pn : Int), .slice a13 N c13, .slice a14 0 c14, .int .i64 0]) rfl (by kernel_rfl) (by kernel_rfl) (by kernel_rfl) (fun _ _ _ h => h) (Or.inl ⟨by rfl, fun w h => by go_simp⟩) hHeld ?_
                try simp only [Act.put, List.getElem_toArray, List.getElem_cons_succ, List.getElem_cons_zero, List.setIfInBounds_toArray, List.set_cons_zero, List.set_cons_succ]
                refine wpAnyH_take (i := 8) (v := .agg #[.bool false, .int .i64 lv, .bool ph, .slice ta tm tc, .slice fa fm fc]) rfl (by kernel_rfl) (by kernel_rfl) (by kernel_rfl) (fun _ _ _ h => h) (Or.inl ⟨by rfl, fun w h => by go_simp⟩) hHeld ?_
                try simp only [Act.put, List.getElem_toArray, List.getElem_cons_succ, List.getElem_cons_zero, List.setIfInBounds_toArray, List.set_cons_zero, List.set_cons_succ]
                refine wpAnyH_take (i := 9) (v := .int .u64 (pn : Int)) rfl (by kernel_rfl) (by kernel_rfl) (by kernel_rfl) (fun _ _ _ h => h) (Or.inl ⟨by rfl, fun w h => by go_simp⟩) hHeld ?_
                try simp only [Act.put, List.getElem_toArray, List.getElem_cons_succ, List.getElem_cons_zero, List.setIfInBounds_toArray, List.set_cons_zero, List.set_cons_succ]
                refine wpAnyH_take (i := 10) (v := .slice a13 N c13) rfl (by kernel_rfl) (by kernel_rfl) (by kernel_rfl) (fun _ _ _ h => h) (Or.inl ⟨by rfl, fun w h => by go_simp⟩) hHeld ?_
                try simp only [Act.put, List.getElem_toArray, List.getElem_cons_succ, List.getElem_cons_zero, List.setIfInBounds_toArray, List.set_cons_zero, List.set_cons_succ]
                refine wpAnyH_take (i := 11) (v := .slice a14 0 c14) rfl (by kernel_rfl) (by kernel_rfl) (by kernel_rfl) (fun _ _ _ h => h) (Or.inl ⟨by rfl, fun w h => by go_simp⟩) hHeld ?_
                try simp only [Act.put, List.getElem_toArray, List.getElem_cons_succ, List.getElem_cons_zero, List.setIfInBounds_toArray, List.set_cons_zero, List.set_cons_succ]
                refine wpAnyH_take (i := 12) (v := .int .i64 0) rfl (by kernel_rfl) (by kernel_rfl) (by kernel_rfl) (fun _ _ _ h => h) (Or.inl ⟨by rfl, fun w h => by go_simp⟩) hHeld ?_
                try simp only [Act.put, List.getElem_toArray, List.getElem_cons_succ, List.getElem_cons_zero, List.setIfInBounds_toArray, List.set_cons_zero, List.set_cons_succ]
                refine wpAnyH_ready (rs := [13]) (by kernel_rfl) (by simp) (AllReadyH.cons rfl (fun K hK => ?_) AllReadyH.nil)
                go_simp
                have hO := HB_new v29
                have b31 := b29.alloc b29.size (.cells #[.bool false, .int .i64 0, .bool false, .slice none 0 0, .slice none 0 0] 43)
                have hT3 := RS.alloc hT3 (.cells #[.bool false, .int .i64 0, .bool false, .slice none 0 0, .slice none 0 0] 43)
                have hF3 := RS.alloc hF3 (.cells #[.bool false, .int .i64 0, .bool false, .slice none 0 0, .slice none 0 0] 43)
                have h13 := RS.alloc h13 (.cells #[.bool false, .int .i64 0, .bool false, .slice none 0 0, .slice none 0 0] 43)
                have h14 := RS.alloc h14 (.cells #[.bool false, .int .i64 0, .bool false, .slice none 0 0, .slice none 0 0] 43)
                refine hK.out _ _ (HDV.out.bl b31 lgV).rng (fun hHeld => ?_)
                clear hK K
                try simp only [Act.put, List.getElem_toArray, List.getElem_cons_succ, List.getElem_cons_zero, List.setIfInBounds_toArray, List.set_cons_zero, List.set_cons_succ]
                generalize (World.alloc _ _) = v31 at *
                obtain ⟨gh, hgh, lgh⟩ : ∃ gh, v29.heap.size = gh ∧ V.heap.size ≤ gh := ⟨_, rfl, b29.size⟩
                rw [hgh] at hO ⊢
                exact hk.out _ gh ta tm tc fa fm fc a11 c11 a12 c12 a13 c13 a14 c14 ⟨b31, hO, hT3, hF3, h13, h14, lgh⟩
              case q27b =>
                go_simp
                have hO := HB_new v27
                have b32 := b27.alloc b27.size (.cells #[.bool false, .int .i64 0, .bool false, .slice none 0 0, .slice none 0 0] 43)
                have bs12 := RS.alloc bs12 (.cells #[.bool false, .int .i64 0, .bool false, .slice none 0 0, .slice none 0 0] 43)
                refine hK.out _ _ (HDV.out.bl b32 lgV).rng (fun hHeld => ?_)
                clear hK K
                try simp only [Act.put, List.getElem_toArray, List.getElem_cons_succ, List.getElem_cons_zero, List.setIfInBounds_toArray, List.set_cons_zero, List.set_cons_succ]
                generalize (World.alloc _ _) = v32 at *
                obtain ⟨gh, hgh, lgh⟩ : ∃ gh, v27.heap.size = gh ∧ V.heap.size ≤ gh := ⟨_, rfl, b27.size⟩
                rw [hgh] at hO ⊢
                refine wpAnyH_ready (rs := [6]) (by kernel_rfl) (by simp) (AllReadyH.cons rfl (fun K hK => ?_) AllReadyH.nil)
                go_simp
                go_at_call 19
                refine (Hop.out v32 _ _ _ (by omega) bs12 (KG.below HKV.out b32)).mono ?_
                rintro x v34 ⟨ta, tm, tc, fa, fm, fc, a13, c13, a14, c14, rfl, hT3, hF3, h13, h14, B2⟩
                have b34 := b32.trans (B2.mono b32.size)
                have hO := hO.grown (grown_of_below (row := none) B2) (by simp)
                refine hK.out _ _ (HDV.out.bl b34 lgV).rng (fun hHeld => ?_)
                clear hK K
                try simp only [Act.put, List.getElem_toArray, List.getElem_cons_succ, List.getElem_cons_zero, List.setIfInBounds_toArray, List.set_cons_zero, List.set_cons_succ]
                refine wpAnyH_take (i := 7) (v := .tuple #[.agg #[.bool false, .int .i64 lv, .bool ph, .slice ta tm tc, .slice fa fm fc], .int .u64 (pn : Int), .slice a13 N c13, .slice a14 0 c14, .int .i64 0]) rfl (by kernel_rfl) (by kernel_rfl) (by kernel_rfl) (fun _ _ _ h => h) (Or.inl ⟨by rfl, fun w h => by go_simp⟩) hHeld ?_
                try simp only [Act.put, List.getElem_toArray, List.getElem_cons_succ, List.getElem_cons_zero, List.setIfInBounds_toArray, List.set_cons_zero, List.set_cons_succ]
                refine wpAnyH_take (i := 8) (v := .agg #[.bool false, .int .i64 lv, .bool ph, .slice ta tm tc, .slice fa fm fc]) rfl (by kernel_rfl) (by kernel_rfl) (by kernel_rfl) (fun _ _ _ h => h) (Or.inl ⟨by rfl, fun w h => by go_simp⟩) hHeld ?_
                try simp only [Act.put, List.getElem_toArray, List.getElem_cons_succ, List.getElem_cons_zero, List.setIfInBounds_toArray, List.set_cons_zero, List.set_cons_succ]
                refine wpAnyH_take (i := 9) (v := .int .u64 (pn : Int)) rfl (by kernel_rfl) (by kernel_rfl) (by kernel_rfl) (fun _ _ _ h => h) (Or.inl ⟨by rfl, fun w h => by go_simp⟩) hHeld ?_
                try simp only [Act.put, List.getElem_toArray, List.getElem_cons_succ, List.getElem_cons_zero, List.setIfInBounds_toArray, List.set_cons_zero, List.set_cons_succ]
                refine wpAnyH_take (i := 10) (v := .slice a13 N c13) rfl (by kernel_rfl) (by kernel_rfl) (by kernel_rfl) (fun _ _ _ h => h) (Or.inl ⟨by rfl, fun w h => by go_simp⟩) hHeld ?_
                try simp only [Act.put, List.getElem_toArray, List.getElem_cons_succ, List.getElem_cons_zero, List.setIfInBounds_toArray, List.set_cons_zero, List.set_cons_succ]
                refine wpAnyH_take (i := 11) (v := .slice a14 0 c14) rfl (by kernel_rfl) (by kernel_rfl) (by kernel_rfl) (fun _ _ _ h => h) (Or.inl ⟨by rfl, fun w h => by go_simp⟩) hHeld ?_
                try simp only [Act.put, List.getElem_toArray, List.getElem_cons_succ, List.getElem_cons_zero, List.setIfInBounds_toArray, List.set_cons_zero, List.set_cons_succ]
                refine wpAnyH_take (i := 12) (v := .int .i64 0) rfl (by kernel_rfl) (by kernel_rfl) (by kernel_rfl) (fun _ _ _ h => h) (Or.inl ⟨by rfl, fun w h => by go_simp⟩) hHeld ?_
                try simp only [Act.put, List.getElem_toArray, List.getElem_cons_succ, List.getElem_cons_zero, List.setIfInBounds_toArray, List.set_cons_zero, List.set_cons_succ]
                exact hk.out _ gh ta tm tc fa fm fc a11 c11 a12 c12 a13 c13 a14 c14 ⟨b34, hO, hT3, hF3, h13, h14, lgh⟩
            case q25b =>
              go_simp
              have hO := HB_new v25
              have b35 := b25.alloc b25.size (.cells #[.bool false, .int .i64 0, .bool false, .slice none 0 0, .slice none 0 0] 43)
              have hne := OW.newNe o11 (Nat.le_refl v25.heap.size)
              have o11 := o11.alloc (.cells #[.bool false, .int .i64 0, .bool false, .slice none 0 0, .slice none 0 0] 43)
              refine hK.out _ _ (HDV.out.bl b35 lgV).rng (fun hHeld => ?_)
              clear hK K
              try simp only [Act.put, List.getElem_toArray, List.getElem_cons_succ, List.getElem_cons_zero, List.setIfInBounds_toArray, List.set_cons_zero, List.set_cons_succ]
              generalize (World.alloc _ _) = v35 at *
              obtain ⟨gh, hgh, lgh⟩ : ∃ gh, v25.heap.size = gh ∧ V.heap.size ≤ gh := ⟨_, rfl, b25.size⟩
              rw [hgh] at hO hne ⊢
              refine wpAnyH_ready (rs := [4]) (by kernel_rfl) (by simp) (AllReadyH.cons rfl (fun K hK => ?_) AllReadyH.nil)
              have hy := RS.below (show BS V none 0 0 [] from RS_nil V 1) b35 (Nat.le_refl _)
              refine S_append tB o11 hy _ _ rfl rfl rfl rfl (by omega) (by unfold maxLen; omega) b35.size ?_
              intro a12 c12 v37 o12 g12
              have b37 := below_own b35 o11 g12 (Nat.le_refl _) b35.size
              have bs12 : BS v37 a12 (r + 0) c12 (R ++ []) := by unfold BS; rw [List.map_append]; exact o12.rs
              have hO := hO.grown g12 hne
              refine hK.out _ _ (HDV.out.bl b37 lgV).rng (fun hHeld => ?_)
              clear hK K
              try simp only [Act.put, List.getElem_toArray, List.getElem_cons_succ, List.getElem_cons_zero, List.setIfInBounds_toArray, List.set_cons_zero, List.set_cons_succ]
              refine wpAnyH_ready (rs := [6]) (by kernel_rfl) (by simp) (AllReadyH.cons rfl (fun K hK => ?_) AllReadyH.nil)
              go_simp
              go_at_call 19
              refine (Hop.out v37 _ _ _ (by omega) bs12 (KG.below HKV.out b37)).mono ?_
              rintro x v39 ⟨ta, tm, tc, fa, fm, fc, a13, c13, a14, c14, rfl, hT3, hF3, h13, h14, B2⟩
              have b39 := b37.trans (B2.mono b37.size)
              have hO := hO.grown (grown_of_below (row := none) B2) (by simp)
              refine hK.out _ _ (HDV.out.bl b39 lgV).rng (fun hHeld => ?_)
              clear hK K
              try simp only [Act.put, List.getElem_toArray, List.getElem_cons_succ, List.getElem_cons_zero, List.setIfInBounds_toArray, List.set_cons_zero, List.set_cons_succ]
              refine wpAnyH_take (i := 7) (v := .tuple #[.agg #[.bool false, .int .i64 lv, .bool ph, .slice ta tm tc, .slice fa fm fc], .int .u64 (pn : Int), .slice a13 N c13, .slice a14 0 c14, .int .i64 0]) rfl (by kernel_rfl) (by kernel_rfl) (by kernel_rfl) (fun _ _ _ h => h) (Or.inl ⟨by rfl, fun w h => by go_simp⟩) hHeld ?_
              try simp only [Act.put, List.getElem_toArray, List.getElem_cons_succ, List.getElem_cons_zero, List.setIfInBounds_toArray, List.set_cons_zero, List.set_cons_succ]
              refine wpAnyH_take (i := 8) (v := .agg #[.bool false, .int .i64 lv, .bool ph, .slice ta tm tc, .slice fa fm fc]) rfl (by kernel_rfl) (by kernel_rfl) (by kernel_rfl) (fun _ _ _ h => h) (Or.inl ⟨by rfl, fun w h => by go_simp⟩) hHeld ?_
              try simp only [Act.put, List.getElem_toArray, List.getElem_cons_succ, List.getElem_cons_zero, List.setIfInBounds_toArray, List.set_cons_zero, List.set_cons_succ]
              refine wpAnyH_take (i := 9) (v := .int .u64 (pn : Int)) rfl (by kernel_rfl) (by kernel_rfl) (by kernel_rfl) (fun _ _ _ h => h) (Or.inl ⟨by rfl, fun w h => by go_simp⟩) hHeld ?_
              try simp only [Act.put, List.getElem_toArray, List.getElem_cons_succ, List.getElem_cons_zero, List.setIfInBounds_toArray, List.set_cons_zero, List.set_cons_succ]
              refine wpAnyH_take (i := 10) (v := .slice a13 N c13) rfl (by kernel_rfl) (by kernel_rfl) (by kernel_rfl) (fun _ _ _ h => h) (Or.inl ⟨by rfl, fun w h => by go_simp⟩) hHeld ?_
              try simp only [Act.put, List.getElem_toArray, List.getElem_cons_succ, List.getElem_cons_zero, List.setIfInBounds_toArray, List.set_cons_zero, List.set_cons_succ]
              refine wpAnyH_take (i := 11) (v := .slice a14 0 c14) rfl (by kernel_rfl) (by kernel_rfl) (by kernel_rfl) (fun _ _ _ h => h) (Or.inl ⟨by rfl, fun w h => by go_simp⟩) hHeld ?_
              try simp only [Act.put, List.getElem_toArray, List.getElem_cons_succ, List.getElem_cons_zero, List.setIfInBounds_toArray, List.set_cons_zero, List.set_cons_succ]
              refine wpAnyH_take (i := 12) (v := .int .i64 0) rfl (by kernel_rfl) (by kernel_rfl) (by kernel_rfl) (fun _ _ _ h => h) (Or.inl ⟨by rfl, fun w h => by go_simp⟩) hHeld ?_
              try simp only [Act.put, List.getElem_toArray, List.getElem_cons_succ, List.getElem_cons_zero, List.setIfInBounds_toArray, List.set_cons_zero, List.set_cons_succ]
              exact hk.out _ gh ta tm tc fa fm fc a11 c11 a12 c12 a13 c13 a14 c14 ⟨b39, hO, hT3, hF3, h13, h14, lgh⟩
          case q23b =>
            go_simp
            have hO := HB_new V
            have b40 := b0.alloc b0.size (.cells #[.bool false, .int .i64 0, .bool false, .slice none 0 0, .slice none 0 0] 43)
            refine hK.out _ _ (HDV.out.bl b40 lgV).rng (fun hHeld => ?_)
            clear hK K
            try simp only [Act.put, List.getElem_toArray, List.getElem_cons_succ, List.getElem_cons_zero, List.setIfInBounds_toArray, List.set_cons_zero, List.set_cons_succ]
            generalize (World.alloc _ _) = v40 at *
            obtain ⟨gh, hgh, lgh⟩ : ∃ gh, V.heap.size = gh ∧ V.heap.size ≤ gh := ⟨_, rfl, b0.size⟩
            rw [hgh] at hO ⊢
            refine wpAnyH_ready (rs := [2]) (by kernel_rfl) (by simp) (AllReadyH.cons rfl (fun K hK => ?_) AllReadyH.nil)
            go_simp
            go_at_call 18
            refine (copy_any v40 (RS.below HRV.out b40 (Nat.le_refl _)) (by omega)).mono ?_
            rintro x v42 ⟨a11, c11, rfl, o11, B11⟩
            have b42 := b40.trans (B11.mono b40.size)
            have hne := OW.oldNe o11 hO.lt
            have hO := hO.grown (grown_of_below (row := none) B11) (by simp)
            have o11 := o11.mono b40.size
            refine hK.out _ _ (HDV.out.bl b42 lgV).rng (fun hHeld => ?_)
            clear hK K
            try simp only [Act.put, List.getElem_toArray, List.getElem_cons_succ, List.getElem_cons_zero, List.setIfInBounds_toArray, List.set_cons_zero, List.set_cons_succ]
            refine wpAnyH_ready (rs := [4]) (by kernel_rfl) (by simp) (AllReadyH.cons rfl (fun K hK => ?_) AllReadyH.nil)
            have hy := RS.below (show BS V none 0 0 [] from RS_nil V 1) b42 (Nat.le_refl _)
            refine S_append tB o11 hy _ _ rfl rfl rfl rfl (by omega) (by unfold maxLen; omega) b42.size ?_
            intro a12 c12 v44 o12 g12
            have b44 := below_own b42 o11 g12 (Nat.le_refl _) b42.size
            have bs12 : BS v44 a12 (r + 0) c12 (R ++ []) := by unfold BS; rw [List.map_append]; exact o12.rs
            have hO := hO.grown g12 hne
            refine hK.out _ _ (HDV.out.bl b44 lgV).rng (fun hHeld => ?_)
            clear hK K
            try simp only [Act.put, List.getElem_toArray, List.getElem_cons_succ, List.getElem_cons_zero, List.setIfInBounds_toArray, List.set_cons_zero, List.set_cons_succ]
            refine wpAnyH_ready (rs := [6]) (by kernel_rfl) (by simp) (AllReadyH.cons rfl (fun K hK => ?_) AllReadyH.nil)
            go_simp
            go_at_call 19
            refine (Hop.out v44 _ _ _ (by omega) bs12 (KG.below HKV.out b44)).mono ?_
            rintro x v46 ⟨ta, tm, tc, fa, fm, fc, a13, c13, a14, c14, rfl, hT3, hF3, h13, h14, B2⟩
            have b46 := b44.trans (B2.mono b44.size)
            have hO := hO.grown (grown_of_below (row := none) B2) (by simp)
            refine hK.out _ _ (HDV.out.bl b46 lgV).rng (fun hHeld => ?_)
            clear hK K
            try simp only [Act.put, List.getElem_toArray, List.getElem_cons_succ, List.getElem_cons_zero, List.setIfInBounds_toArray, List.set_cons_zero, List.set_cons_succ]
            refine wpAnyH_take (i := 7) (v := .tuple #[.agg #[.bool false, .int .i64 lv, .bool ph, .slice ta tm tc, .slice fa fm fc], .int .u64 (pn : Int), .slice a13 N c13, .slice a14 0 c14, .int .i64 0]) rfl (by kernel_rfl) (by kernel_rfl) (by kernel_rfl) (fun _ _ _ h => h) (Or.inl ⟨by rfl, fun w h => by go_simp⟩) hHeld ?_
            try simp only [Act.put, List.getElem_toArray, List.getElem_cons_succ, List.getElem_cons_zero, List.setIfInBounds_toArray, List.set_cons_zero, List.set_cons_succ]
            refine wpAnyH_take (i := 8) (v := .agg #[.bool false, .int .i64 lv, .bool ph, .slice ta tm tc, .slice fa fm fc]) rfl (by kernel_rfl) (by kernel_rfl) (by kernel_rfl) (fun _ _ _ h => h) (Or.inl ⟨by rfl, fun w h => by go_simp⟩) hHeld ?_
            try simp only [Act.put, List.getElem_toArray, List.getElem_cons_succ, List.getElem_cons_zero, List.setIfInBounds_toArray, List.set_cons_zero, List.set_cons_succ]
            refine wpAnyH_take (i := 9) (v := .int .u64 (pn : Int)) rfl (by kernel_rfl) (by kernel_rfl) (by kernel_rfl) (fun _ _ _ h => h) (Or.inl ⟨by rfl, fun w h => by go_simp⟩) hHeld ?_
            try simp only [Act.put, List.getElem_toArray, List.getElem_cons_succ, List.getElem_cons_zero, List.setIfInBounds_toArray, List.set_cons_zero, List.set_cons_succ]
            refine wpAnyH_take (i := 10) (v := .slice a13 N c13) rfl (by kernel_rfl) (by kernel_rfl) (by kernel_rfl) (fun _ _ _ h => h) (Or.inl ⟨by rfl, fun w h => by go_simp⟩) hHeld ?_
            try simp only [Act.put, List.getElem_toArray, List.getElem_cons_succ, List.getElem_cons_zero, List.setIfInBounds_toArray, List.set_cons_zero, List.set_cons_succ]
            refine wpAnyH_take (i := 11) (v := .slice a14 0 c14) rfl (by kernel_rfl) (by kernel_rfl) (by kernel_rfl) (fun _ _ _ h => h) (Or.inl ⟨by rfl, fun w h => by go_simp⟩) hHeld ?_
            try simp only [Act.put, List.getElem_toArray, List.getElem_cons_succ, List.getElem_cons_zero, List.setIfInBounds_toArray, List.set_cons_zero, List.set_cons_succ]
            refine wpAnyH_take (i := 12) (v := .int .i64 0) rfl (by kernel_rfl) (by kernel_rfl) (by kernel_rfl) (fun _ _ _ h => h) (Or.inl ⟨by rfl, fun w h => by go_simp⟩) hHeld ?_
            try simp only [Act.put, List.getElem_toArray, List.getElem_cons_succ, List.getElem_cons_zero, List.setIfInBounds_toArray, List.set_cons_zero, List.set_cons_succ]
            exact hk.out _ gh ta tm tc fa fm fc a11 c11 a12 c12 a13 c13 a14 c14 ⟨b46, hO, hT3, hF3, h13, h14, lgh⟩
        case rest2 =>
          intro v gh ta tm tc fa fm fc a11 c11 a12 c12 a13 c13 a14 c14 hI
          have hHeld := (HDV.out.bl hI.bl lgV).rng
          refine wpAnyH_ready (rs := [14]) (by kernel_rfl) (by simp) (AllReadyH.cons rfl (fun K hK => ?_) AllReadyH.nil)
          refine S_storeH rfl _ _ rfl rfl rfl rfl rfl hI.hb ?_
          intro v2 hH2 gr2
          have b4 : Below V.heap.size V v2 := hI.bl.grown gr2 hI.bl.size (fun k hk => by cases hk; exact hI.lg)
          refine hK.out _ _ (HDV.out.bl b4 lgV).rng (fun hHeld => ?_)
          clear hK K
          try simp only [Act.put, List.getElem_toArray, List.getElem_cons_succ, List.getElem_cons_zero]
          refine wpAnyH_take (i := 15) (v := .int .u64 (pn : Int)) rfl (by kernel_rfl) (by kernel_rfl) (by kernel_rfl) (fun _ _ _ h => h) (Or.inl ⟨by rfl, fun w h => by go_simp⟩) hHeld ?_
          try simp only [Act.put, List.getElem_toArray, List.getElem_cons_succ, List.getElem_cons_zero, List.setIfInBounds_toArray, List.set_cons_zero, List.set_cons_succ]
          refine wpAnyH_take (i := 16) (v := .slice a13 N c13) rfl (by kernel_rfl) (by kernel_rfl) (by kernel_rfl) (fun _ _ _ h => h) (Or.inl ⟨by rfl, fun w h => by go_simp⟩) hHeld ?_
          try simp only [Act.put, List.getElem_toArray, List.getElem_cons_succ, List.getElem_cons_zero, List.setIfInBounds_toArray, List.set_cons_zero, List.set_cons_succ]
          refine wpAnyH_take (i := 17) (v := .slice a14 0 c14) rfl (by kernel_rfl) (by kernel_rfl) (by kernel_rfl) (fun _ _ _ h => h) (Or.inl ⟨by rfl, fun w h => by go_simp⟩) hHeld ?_
          try simp only [Act.put, List.getElem_toArray, List.getElem_cons_succ, List.getElem_cons_zero, List.setIfInBounds_toArray, List.set_cons_zero, List.set_cons_succ]
          refine wpAnyH_take (i := 18) (v := .int .i64 0) rfl (by kernel_rfl) (by kernel_rfl) (by kernel_rfl) (fun _ _ _ h => h) (Or.inl ⟨by rfl, fun w h => by go_simp⟩) hHeld ?_
          try simp only [Act.put, List.getElem_toArray, List.getElem_cons_succ, List.getElem_cons_zero, List.setIfInBounds_toArray, List.set_cons_zero, List.set_cons_succ]
          refine wpAnyH_done (by kernel_rfl) ?_ _
          try simp only [Act.put, List.getElem_toArray, List.getElem_cons_succ, List.getElem_cons_zero]
          have h13 := hI.h13.grownHB hI.hb gr2
          have h14 := hI.h14.grownHB hI.hb gr2
          have hT4 := hI.ht.grownHB hI.hb gr2
          have hF4 := hI.hf.grownHB hI.hb gr2
          have hHG := HHV.out.grown (grown_of_below (row := none) b4) (by simp)
          have hsh := hsame_any v2 false lv ph false lv ph hT4 hF4 (RS.below HTV.out b4 (Nat.le_refl _)) (RS.below HFV.out b4 (Nat.le_refl _)) rfl rfl rfl rfl rfl
          have Hsh := Lib.hid hsh
          have H13 := Lib.hid h13
          have H14 := Lib.hid h14
          have HP4 := Lib.hid (RS.below HPV.out b4 (Nat.le_refl _))
          have HQ4 := Lib.hid (RS.below (show BS V none 0 0 [] from RS_nil V 1) b4 (Nat.le_refl _))
          have HB4 := Lib.hid (HBV.out.trans (b4.mono HBV.out.size))
          have c0 := hH2.cells
          have c1 := hHG.cells
          clear h13 h14 hT4 hF4 hHG hsh b4 hI hH2 gr2 hHeld HRV HDV HHV HTV HFV HPV HQV HKV HBV Hop rDV q10
          go_wp2_with (first
            | (go_at_call 21; (with_reducible refine Hsh.out.mono ?_); rintro x w15 ⟨rfl, B15⟩; have hs3 := same_any w15 (RS.below H13.out B15 (Nat.le_refl _)) (RS.below HP4.out B15 (Nat.le_refl _)); rw [beq_self_eq_true] at hs3; have Hs3 := Lib.hid hs3; clear hs3; have hs5 := same_any w15 (RS.below H14.out B15 (Nat.le_refl _)) (RS.below HQ4.out B15 (Nat.le_refl _)); rw [beq_self_eq_true] at hs5; have Hs5 := Lib.hid hs5; clear hs5)
            | (go_at_call 15; (with_reducible refine Hs3.out.mono ?_); rintro x w16 ⟨rfl, rfl⟩)
            | (go_at_call 15; (with_reducible refine Hs5.out.mono ?_); rintro x w17 ⟨rfl, rfl⟩))
          go_ret
          exact ⟨rfl, HB4.out.trans (B15.mono HB4.out.size)⟩
end Go.Proofs.YtlncnjcbgfeaoaaDoor
