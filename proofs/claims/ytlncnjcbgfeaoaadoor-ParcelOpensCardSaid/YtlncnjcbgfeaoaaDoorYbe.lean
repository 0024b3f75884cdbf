/- the reference's Read: long heads. -/
import Derived.Test.YtlncnjcbgfeaoaaDoorYbb
set_option maxRecDepth 100000
set_option linter.unusedVariables false
namespace Go.Proofs.YtlncnjcbgfeaoaaDoor
open Go.RowKit
theorem taker_none (w : World) {a : Option Addr} {n c : Nat} (xs : List UInt8) (hx : BS w a n c xs) (hn : n ≤ 140737488355328) (ht : takeS xs = none) :
    Calls Tryd.prog 57 #[.slice a n c] w fun e w' => e = .returned (.tuple #[.int .u64 0, .slice none 0 0, .int .i64 2]) ∧ Below w.heap.size w w' := by
  refine (taker_any w xs hx hn).mono fun e w' h => ?_
  unfold TakePost at h; rw [ht] at h; exact h
theorem taker_some (w : World) {a : Option Addr} {n c : Nat} (xs : List UInt8) (hx : BS w a n c xs) (hn : n ≤ 140737488355328) (v m : Nat) (ys : List UInt8) (hm : ys.length = m) (ht : takeS xs = some (v, ys)) :
    Calls Tryd.prog 57 #[.slice a n c] w fun e w' => ∃ a' c', e = .returned (.tuple #[.int .u64 (v : Int), .slice a' m c', .int .i64 0]) ∧ OW w' w.heap.size 5 1 a' m c' (ys.map B) ∧ Below w.heap.size w w' := by
  subst hm
  refine (taker_any w xs hx hn).mono fun e w' h => ?_
  unfold TakePost at h; rw [ht] at h; exact h
theorem idS_cases (r : List UInt8) : r = [] ∧ idS r = (2, []) ∨ ∃ b r', r = b :: r' ∧ (20 < b.toNat ∧ idS r = (4, []) ∨ b.toNat ≤ 20 ∧ r'.length < b.toNat ∧ idS r = (2, []) ∨ b.toNat ≤ 20 ∧ b.toNat ≤ r'.length ∧ idS r = (0, r'.take b.toNat)) := by
  cases r with
  | nil => exact .inl ⟨rfl, rfl⟩
  | cons b r' =>
    refine .inr ⟨b, r', rfl, ?_⟩
    rw [idS_cons]
    by_cases h1 : 20 < b.toNat
    · exact .inl ⟨h1, if_pos h1⟩
    · by_cases h2 : r'.length < b.toNat
      · exact .inr (.inl ⟨by omega, h2, by rw [if_neg h1, if_pos h2]⟩)
      · exact .inr (.inr ⟨by omega, by omega, by rw [if_neg h1, if_neg h2]⟩)
abbrev vobj : Obj := .cells #[.int .u8 0, .int .u8 0, .int .u8 0, .int .u8 1] 5
abbrev lobj (lv : Int) : Obj := .cells #[.bool true, .int .i64 lv, .bool false, .slice none 0 0, .slice none 0 0] 43
theorem rs_v (w : World) : RS (w.alloc vobj) 1 (some ⟨w.heap.size, 0, none⟩) 4 4 (([0, 0, 0, 1] : List UInt8).map B) :=
  RS_new w 5 #[.int .u8 0, .int .u8 0, .int .u8 0, .int .u8 1] 4 rfl (by omega) (by simp [Value.oneCell'])
theorem LB2_slice_l {P : Program} {w : World} {ops : Array Oper} {rest : List Oper} {o : Oper} {f : Act} {Q : Exit → Act → World → Prop} {t e : TypeId} {zero : Value} {bytes : Nat} (ty : STy P t e zero 1 bytes) {a : Option Addr} {n c : Nat} {xs : List UInt8} (hx : BS w a n c xs) (i : Nat) (x l : Operand) (hg : Region.wanted o (yielded ops f.tmps) = true)
    (hop : o.op = .slice t x (some l) none none) (k1 : IntKind) (I : Int) (ex : f.eval x = .slice a n c) (el : f.eval l = .int k1 I) (hI : I = i) (h1 : i ≤ n)
    (h : ∀ a' r c', n - i = r → c - i = c' → (∀ ad, a' = some ad → ∃ ad0, a = some ad0 ∧ ad.block = ad0.block) → BS w a' r c' (xs.drop i) → wpList P ops Q rest (f.put o.dst (.slice a' r c')) w) : wpList P ops Q (o :: rest) f w :=
  L_slice_l ty hx i x l hg hop k1 I ex el hI h1 fun a' _ h2 h3 => h a' _ _ rfl rfl h2 (by
    unfold BS; simpa only [Nat.mul_one, List.map_drop] using h3)
theorem drop_cons {l : List UInt8} {b : UInt8} {r : List UInt8} (h : l = b :: r) (k : Nat) : l.drop (1 + k) = r.drop k := by
  rw [h, Nat.add_comm]; rfl
theorem HB.other {w : World} {b : Nat} {l : Bool} {lv : Int} {ph : Bool} {t f : Value} (h : HB w b l lv ph t f) {b' i : Nat} {v : Value} (hb : b' ≠ b) : HB (w.setCell ⟨b', i, none⟩ v) b l lv ph t f := by
  unfold HB at h ⊢
  rw [Below.heap_setCell _ _ _ _ (fun h => hb h.symm)]; exact h
theorem set5 {w w1 : World} {B b : Nat} (h : Below B w w1) (hb : B ≤ b) (v0 v1 v2 v3 v4 : Value) :
    Below B w (((((w1.setCell ⟨b, 0, none⟩ v0).setCell ⟨b, 1, none⟩ v1).setCell ⟨b, 2, none⟩ v2).setCell ⟨b, 3, none⟩ v3).setCell ⟨b, 4, none⟩ v4) :=
  ((((h.setCell hb _).setCell hb _).setCell hb _).setCell hb _).setCell hb _
section rr
variable {w : World} {a : Option Addr} {n c : Nat}
set_option maxHeartbeats 4000000 in
theorem rr_long0 (b : UInt8) (bs : List UInt8) (hx : BS w a n c (b :: bs)) (hn : n ≤ 140737488355328) (h6 : b.toNat / 64 % 2 ≠ 0) (h7 : ¬ b.toNat < 128) (ht : b.toNat / 16 % 4 = 0) : Calls Tryd.prog 39 #[.slice a n c] w (ReadSPost w (b :: bs)) := by
  have hl := hx.len
  have h0 : ((n : Int) == 0) = false := by simp at hl ⊢; omega
  have hn1 : 1 ≤ n := by simp at hl; omega
  have hb8 := u8_lt b
  have hq : (b.toNat : Int) / 64 % 2 = 1 := by omega
  have h7' : ¬ (b.toNat : Int) < 128 := by omega
  have Hp := Lib.hid (show readP (b :: bs) = readL (b :: bs) 0 by rw [readP, if_neg h6, if_neg h7]; simp [ht])
  have t0 : (b.toNat : Int) / 16 % 4 = 0 := by omega
  have hx1 := (hx.alloc hobj).alloc hobj
  have hx2 := hx1.alloc (lobj 0)
  have hx3 := hx2.alloc vobj
  have hv := rs_v (((w.alloc hobj).alloc hobj).alloc (lobj 0))
  have hb3 := (((below_alloc w hobj).alloc (by simp) hobj).alloc (by simp; omega) (lobj 0)).alloc (by simp; omega) vobj
  clear h6 h7 ht
  by_cases hs : n < 5
  · have Hp2 := Lib.hid (readS_err (show readP (b :: bs) = errR 2 by rw [Hp.out, readL, if_pos (by omega)]) (by decide))
    clear hl
    go_enter Tryd.func39, Tryd.ntmps39
    go_wp2_with (refine LB_index tB hx1 b _ _ rfl rfl _ _ rfl rfl (by omega) (by omega) rfl ?_; intro q hq)
    refine bodyPost_ret (v := .tuple #[.agg #[.bool false, .int .i64 0, .bool false, .slice none 0 0, .slice none 0 0], .int .i64 0, .int .i64 0, .int .i64 2]) (by simp [results, Tryd.results39, go_sem]) rfl (ReadSPost_err Hp2.out ?_)
    go_grown
  · obtain ⟨V, hV⟩ : ∃ V, ((b :: bs).drop 1).take 4 = V := ⟨_, rfl⟩
    obtain ⟨qv, hqv⟩ : ∃ q, (V == [0, 0, 0, 1]) = q := ⟨_, rfl⟩
    have HV0 := Lib.hid hV
    have Hq := Lib.hid hqv
    have t1 : ∀ a', BS (((w.alloc hobj).alloc hobj).alloc (lobj 0)) a' 4 (c - 1) (((b :: bs).drop 1).take (5 - 1)) → Calls Tryd.prog 15 #[.slice a' 4 (c - 1), .slice (some ⟨w.heap.size + 1 + 1 + 1, 0, none⟩) 4 4] ((((w.alloc hobj).alloc hobj).alloc (lobj 0)).alloc vobj) fun e w' => e = .returned (.bool qv) ∧ ((((w.alloc hobj).alloc hobj).alloc (lobj 0)).alloc vobj) = w' := by
      intro a' h
      have h2 := same_any _ (RS.alloc h vobj) hv
      rw [show (5 - 1 : Nat) = 4 from rfl, hV, hqv] at h2
      simpa using h2
    have T1 := Lib.hid t1
    clear hV hqv t1 hv
    cases qv with
    | false =>
      have Hp2 := Lib.hid (readS_err (show readP (b :: bs) = errR 4 by
        rw [Hp.out, readL, if_neg (by omega), if_pos (by rw [HV0.out]; simpa using Hq.out)]) (by decide))
      clear hl
      go_enter Tryd.func39, Tryd.ntmps39
      go_wp2_with (first | (refine LB_index tB hx1 b _ _ rfl rfl _ _ rfl rfl (by omega) (by omega) rfl ?_; intro q hq) | (refine LB_slice_lh tB hx2 1 5 _ _ _ rfl rfl _ _ _ _ rfl rfl rfl rfl rfl (by decide) (by omega) ?_; intro a1 hs1) | (go_at_call 15; refine (T1.out _ hs1).mono ?_; rintro e w1 ⟨rfl, rfl⟩))
      refine bodyPost_ret (v := .tuple #[.agg #[.bool false, .int .i64 0, .bool false, .slice none 0 0, .slice none 0 0], .int .i64 0, .int .i64 0, .int .i64 4]) (by simp [results, Tryd.results39, go_sem]) rfl (ReadSPost_err Hp2.out ?_)
      go_grown
    | true =>
      have hp1 : readP (b :: bs) = if (idS ((b :: bs).drop 5)).1 ≠ 0 then errR (idS ((b :: bs).drop 5)).1 else if (idS ((b :: bs).drop (5 + 1 + (idS ((b :: bs).drop 5)).2.length))).1 ≠ 0 then errR (idS ((b :: bs).drop (5 + 1 + (idS ((b :: bs).drop 5)).2.length))).1 else readT (b :: bs) 0 (idS ((b :: bs).drop 5)).2 (idS ((b :: bs).drop (5 + 1 + (idS ((b :: bs).drop 5)).2.length))).2 ((b :: bs).drop (5 + 1 + (idS ((b :: bs).drop 5)).2.length + 1 + (idS ((b :: bs).drop (5 + 1 + (idS ((b :: bs).drop 5)).2.length))).2.length)) := by
        rw [Hp.out, readL, if_neg (by omega), if_neg (by rw [HV0.out]; simpa using Hq.out)]
      have Hp1 := Lib.hid hp1
      clear hp1 Hp HV0 Hq
      go_enter Tryd.func39, Tryd.ntmps39
      go_wp2_with (first | (refine LB_index tB hx1 b _ _ rfl rfl _ _ rfl rfl (by omega) (by omega) rfl ?_; intro q hq) | (refine LB_slice_lh tB hx2 1 5 _ _ _ rfl rfl _ _ _ _ rfl rfl rfl rfl rfl (by decide) (by omega) ?_; intro a1 hs1) | (go_at_call 15; refine (T1.out _ hs1).mono ?_; rintro e w1 ⟨rfl, rfl⟩; clear T1 hs1) | (refine LB2_slice_l tB hx3 5 _ _ rfl rfl _ _ rfl rfl rfl (by omega) ?_; intro a5 r0 cr0 hre0 hce0 hk5 hr0))
      refine wp_loop_rounds 3 ?_
      rw [rounds_succ]
      have hb5 : ∀ ad, a5 = some ad → ad.block < w.heap.size := fun ad h => by
        obtain ⟨ad0, h1, h2⟩ := hk5 ad h
        rw [h2]; exact hx.block_lt h1 (by omega) (by omega)
      have hb52 : ∀ x, a5 = some x → x.block ≠ w.heap.size + 1 + 1 := fun x hx => by have := hb5 x hx; omega
      have hA : HB ((((w.alloc hobj).alloc hobj).alloc (lobj 0)).alloc vobj) w.heap.size false 0 false (.slice none 0 0) (.slice none 0 0) := by
        unfold HB
        rw [Below.heap_alloc _ vobj _ (by simp <;> omega), Below.heap_alloc _ (lobj 0) _ (by simp <;> omega), Below.heap_alloc _ hobj _ (by simp)]
        exact heap_alloc_new w _
      have hB : HB ((((w.alloc hobj).alloc hobj).alloc (lobj 0)).alloc vobj) (w.heap.size + 1) false 0 false (.slice none 0 0) (.slice none 0 0) := by
        unfold HB
        rw [Below.heap_alloc _ vobj _ (by simp <;> omega), Below.heap_alloc _ (lobj 0) _ (by simp)]
        simpa using heap_alloc_new (w.alloc hobj) hobj
      have hC : HB ((((w.alloc hobj).alloc hobj).alloc (lobj 0)).alloc vobj) (w.heap.size + 1 + 1) true 0 false (.slice none 0 0) (.slice none 0 0) := by
        unfold HB
        rw [Below.heap_alloc _ vobj _ (by simp)]
        simpa using heap_alloc_new ((w.alloc hobj).alloc hobj) (lobj 0)
      have hl5 := hr0.len
      rw [List.length_drop] at hl5
      obtain ⟨R0, hR0⟩ : ∃ R, (b :: bs).drop 5 = R := ⟨_, rfl⟩
      have hp1 := Hp1.out
      have hd0 : ∀ k, (b :: bs).drop (5 + k) = R0.drop k := fun k => by rw [← hR0, List.drop_drop]
      simp only [hR0, Nat.add_assoc, hd0] at hp1
      rw [hR0] at hr0
      have Hp3 := Lib.hid hp1
      have hn5 : 5 + r0 ≤ n ∧ n ≤ 5 + r0 := by omega
      have hrl := hr0.len
      clear hp1 Hp1 hd0 hR0 hl5 hk5 hre0 hce0
      have Hl := Lib.hid hl
      clear hl
      obtain ⟨rfl, hi⟩ | ⟨b0, R0', rfl, hi⟩ := idS_cases R0
      · obtain rfl : r0 = 0 := by simpa using hrl.symm
        have Hp9 := Lib.hid (readS_err (show readP (b :: bs) = errR 2 by rw [Hp3.out, hi]; rfl) (by decide))
        go_wp2_with fail
        refine bodyPost_ret (v := .tuple #[.agg #[.bool false, .int .i64 0, .bool false, .slice none 0 0, .slice none 0 0], .int .i64 0, .int .i64 0, .int .i64 2]) (by simp [results, Tryd.results39, go_sem]) rfl (ReadSPost_err Hp9.out ?_)
        go_grown
      · have hb0 := u8_lt b0
        have hr1 : 1 ≤ r0 := by simp at hrl; omega
        have hr2 : R0'.length + 1 ≤ r0 ∧ r0 ≤ R0'.length + 1 := by simp at hrl; omega
        have hr3 : ((r0 : Int) == 0) = false := by simp; omega
        obtain ⟨h20, hi⟩ | ⟨h20, hsh, hi⟩ | ⟨h20, hsh, hi⟩ := hi
        · have Hp9 := Lib.hid (readS_err (show readP (b :: bs) = errR 4 by rw [Hp3.out, hi]; rfl) (by decide))
          clear hi hrl
          go_wp2_with (refine LB_index tB hr0 b0 _ _ rfl rfl _ _ rfl rfl (by omega) (by omega) rfl ?_; intro q hq)
          refine bodyPost_ret (v := .tuple #[.agg #[.bool false, .int .i64 0, .bool false, .slice none 0 0, .slice none 0 0], .int .i64 0, .int .i64 0, .int .i64 4]) (by simp [results, Tryd.results39, go_sem]) rfl (ReadSPost_err Hp9.out ?_)
          go_grown
        · have Hp9 := Lib.hid (readS_err (show readP (b :: bs) = errR 2 by rw [Hp3.out, hi]; rfl) (by decide))
          clear hi hrl
          go_wp2_with (refine LB_index tB hr0 b0 _ _ rfl rfl _ _ rfl rfl (by omega) (by omega) rfl ?_; intro q hq)
          refine bodyPost_ret (v := .tuple #[.agg #[.bool false, .int .i64 0, .bool false, .slice none 0 0, .slice none 0 0], .int .i64 0, .int .i64 0, .int .i64 2]) (by simp [results, Tryd.results39, go_sem]) rfl (ReadSPost_err Hp9.out ?_)
          go_grown
        · obtain ⟨m1, hm1⟩ : ∃ m1, b0.toNat = m1 := ⟨_, rfl⟩
          rw [hm1] at hsh h20 hi
          have hm1' : (b0.toNat : Int) = m1 := by omega
          obtain ⟨n1, hn1e⟩ : ∃ n1, R0'.take m1 = n1 := ⟨_, rfl⟩
          have hn1l : n1.length = m1 := by rw [← hn1e, List.length_take]; omega
          rw [hn1e] at hi
          have hp1 := Hp3.out
          rw [hi] at hp1
          simp only [hn1l, ne_eq, not_true, if_false, drop_cons rfl] at hp1
          have Hp4 := Lib.hid hp1
          have Hn1 : Hid (((b0 :: R0').drop 1).take m1 = n1) := hn1e
          clear hp1 Hp3 hi hrl hn1e hn1l hm1 hb0
          go_wp2_with (first | (refine LB_index tB hr0 b0 _ _ rfl rfl _ _ rfl rfl (by omega) (by omega) rfl ?_; intro q hq) | (refine LB_slice_lh tB hr0 1 (1 + m1) _ _ _ rfl rfl _ _ _ _ rfl rfl rfl rfl (by omega) (by omega) (by omega) ?_; rw [Nat.add_sub_cancel_left, Hn1.out]; intro a9 hs9) | (go_at_call 18; refine (copy_any _ hs9 (by omega)).mono ?_; rintro e w4 ⟨a6, c6, rfl, g1, g2⟩; have z0 := (hA.grown (grown_of_below (row := none) g2) (by simp)).cells; have z1 := (hA.grown (grown_of_below (row := none) g2) (by simp)).fr; have z2 := (hB.grown (grown_of_below (row := none) g2) (by simp)).cells; have z3 := (hC.grown (grown_of_below (row := none) g2) (by simp)).cells; have z4 := (hC.grown (grown_of_below (row := none) g2) (by simp)).fr; have hr4 := RS.setOther (RS.below hr0 g2 (Nat.le_refl _)) (ad := ⟨w.heap.size + 1 + 1, 3, none⟩) hb52 (.slice a6 m1 c6)) | (refine LB2_slice_l tB hr4 (1 + m1) _ _ rfl rfl _ _ rfl rfl rfl (by omega) ?_; intro a8 r1 cr1 hre1 hce1 hk8 hr5))
          have hp1 := Hp4.out
          have hr6 : BS (w4.setCell ⟨w.heap.size + 1 + 1, 3, none⟩ (.slice a6 m1 c6)) a8 r1 cr1 (R0'.drop m1) := by rw [← drop_cons (l := b0 :: R0') rfl m1]; exact hr5
          have hr6l := hr6.len
          have hr1n : 5 + (1 + m1 + r1) ≤ n ∧ n ≤ 5 + (1 + m1 + r1) := by omega
          have hA4 := hA.grown (grown_of_below (row := none) g2) (by simp)
          have hB4 := hB.grown (grown_of_below (row := none) g2) (by simp)
          have hC4 := hC.grown (grown_of_below (row := none) g2) (by simp)
          have hA4' : HB (w4.setCell ⟨w.heap.size + 1 + 1, 3, none⟩ (.slice a6 m1 c6)) _ _ _ _ _ _ := HB.other hA4 (by omega)
          have hB4' : HB (w4.setCell ⟨w.heap.size + 1 + 1, 3, none⟩ (.slice a6 m1 c6)) _ _ _ _ _ _ := HB.other hB4 (by omega)
          have hC4' := hC4.set3 (.slice a6 m1 c6)
          have e6 : ∀ x, a6 = some x → w.heap.size + 3 ≤ x.block := fun x hx => by have := (g1.base_le hx).1; simp at this; omega
          have bel4 : Below w.heap.size w (w4.setCell ⟨w.heap.size + 1 + 1, 3, none⟩ (.slice a6 m1 c6)) := (below_then hb3 g2 (by simp; omega)).setCell (by simp; omega) _
          have hz4 := hC4'.lt
          have HT4 : BS (w4.setCell ⟨w.heap.size + 1 + 1, 3, none⟩ (.slice a6 m1 c6)) a6 m1 c6 n1 := RS.setOther g1.rs (fun x hx => by have := e6 x hx; simp; omega) _
          have hb8' : ∀ x, a8 = some x → x.block ≠ w.heap.size + 1 + 1 := fun x hx => by obtain ⟨y, h1, h2⟩ := hk8 x hx; rw [h2]; exact hb52 y h1
          clear hr5 hk8 hre1 hce1 hA4 hB4 hC4 hA hB hC hb3 hr4 hr0 hs9 g1 g2 Hn1
          rw [rounds_succ]
          obtain ⟨R1, hR1⟩ : ∃ R1, R0'.drop m1 = R1 := ⟨_, rfl⟩
          have hd2 : ∀ k, R0'.drop (m1 + k) = R1.drop k := fun k => by rw [← hR1, List.drop_drop]
          simp only [hR1, hd2] at hp1
          rw [hR1] at hr6 hr6l
          have Hp5 := Lib.hid hp1
          clear hp1 Hp4 hd2 hR1
          obtain ⟨rfl, hi⟩ | ⟨b1, R1', rfl, hi⟩ := idS_cases R1
          · obtain rfl : r1 = 0 := by simpa using hr6l.symm
            have Hp9 := Lib.hid (readS_err (show readP (b :: bs) = errR 2 by rw [Hp5.out, hi]; rfl) (by decide))
            go_wp2_with fail
            refine bodyPost_ret (v := .tuple #[.agg #[.bool false, .int .i64 0, .bool false, .slice none 0 0, .slice none 0 0], .int .i64 0, .int .i64 0, .int .i64 2]) (by simp [results, Tryd.results39, go_sem, z0]) rfl (ReadSPost_err Hp9.out ?_)
            exact set5 bel4 (by omega) _ _ _ _ _
          · have hb1 := u8_lt b1
            have hr1a : 1 ≤ r1 := by simp at hr6l; omega
            have hr2a : R1'.length + 1 ≤ r1 ∧ r1 ≤ R1'.length + 1 := by simp at hr6l; omega
            have hr3a : ((r1 : Int) == 0) = false := by simp; omega
            obtain ⟨h20', hi⟩ | ⟨h20', hsh', hi⟩ | ⟨h20', hsh', hi⟩ := hi
            · have Hp9 := Lib.hid (readS_err (show readP (b :: bs) = errR 4 by rw [Hp5.out, hi]; rfl) (by decide))
              clear hi hr6l
              go_wp2_with (refine LB_index tB hr6 b1 _ _ rfl rfl _ _ rfl rfl (by omega) (by omega) rfl ?_; intro q hq)
              refine bodyPost_ret (v := .tuple #[.agg #[.bool false, .int .i64 0, .bool false, .slice none 0 0, .slice none 0 0], .int .i64 0, .int .i64 0, .int .i64 4]) (by simp [results, Tryd.results39, go_sem, z0]) rfl (ReadSPost_err Hp9.out ?_)
              exact set5 bel4 (by omega) _ _ _ _ _
            · have Hp9 := Lib.hid (readS_err (show readP (b :: bs) = errR 2 by rw [Hp5.out, hi]; rfl) (by decide))
              clear hi hr6l
              go_wp2_with (refine LB_index tB hr6 b1 _ _ rfl rfl _ _ rfl rfl (by omega) (by omega) rfl ?_; intro q hq)
              refine bodyPost_ret (v := .tuple #[.agg #[.bool false, .int .i64 0, .bool false, .slice none 0 0, .slice none 0 0], .int .i64 0, .int .i64 0, .int .i64 2]) (by simp [results, Tryd.results39, go_sem, z0]) rfl (ReadSPost_err Hp9.out ?_)
              exact set5 bel4 (by omega) _ _ _ _ _
            · obtain ⟨m2, hm2⟩ : ∃ m2, b1.toNat = m2 := ⟨_, rfl⟩
              rw [hm2] at hsh' h20' hi
              have hm2' : (b1.toNat : Int) = m2 := by omega
              obtain ⟨n2, hn2e⟩ : ∃ n2, R1'.take m2 = n2 := ⟨_, rfl⟩
              have hn2l : n2.length = m2 := by rw [← hn2e, List.length_take]; omega
              rw [hn2e] at hi
              have hp1 := Hp5.out
              rw [hi] at hp1
              simp only [hn2l, not_true, if_false, drop_cons rfl] at hp1
              have Hp6 := Lib.hid hp1
              have Hn2 : Hid (((b1 :: R1').drop 1).take m2 = n2) := hn2e
              clear hp1 Hp5 hi hr6l hn2e hn2l hm2 hb1
              go_wp2_with (first | (refine LB_index tB hr6 b1 _ _ rfl rfl _ _ rfl rfl (by omega) (by omega) rfl ?_; intro q hq) | (refine LB_slice_lh tB hr6 1 (1 + m2) _ _ _ rfl rfl _ _ _ _ rfl rfl rfl rfl (by omega) (by omega) (by omega) ?_; rw [Nat.add_sub_cancel_left, Hn2.out]; intro a10 hs10) | (go_at_call 18; refine (copy_any _ hs10 (by omega)).mono ?_; rintro e w5 ⟨a7, c7, rfl, g3, g4⟩; clear z0 z1 z2 z3 z4; have y0 := (hA4'.grown (grown_of_below (row := none) g4) (by simp)).cells; have y1 := (hA4'.grown (grown_of_below (row := none) g4) (by simp)).fr; have y2 := (hB4'.grown (grown_of_below (row := none) g4) (by simp)).cells; have y3 := (hC4'.grown (grown_of_below (row := none) g4) (by simp)).cells; have y4 := (hC4'.grown (grown_of_below (row := none) g4) (by simp)).fr; have hr7 := RS.setOther (RS.below hr6 g4 (Nat.le_refl _)) (ad := ⟨w.heap.size + 1 + 1, 4, none⟩) hb8' (.slice a7 m2 c7)) | (refine LB2_slice_l tB hr7 (1 + m2) _ _ rfl rfl _ _ rfl rfl rfl (by omega) ?_; intro a11 r2 cr2 hre2 hce2 hk11 hr8))
              have hr9 : BS (w5.setCell ⟨w.heap.size + 1 + 1, 4, none⟩ (.slice a7 m2 c7)) a11 r2 cr2 (R1'.drop m2) := by rw [← drop_cons (l := b1 :: R1') rfl m2]; exact hr8
              obtain ⟨R2, hR2⟩ : ∃ R2, R1'.drop m2 = R2 := ⟨_, rfl⟩
              have hp1 := Hp6.out
              rw [hR2] at hr9 hp1
              have Hp7 := Lib.hid hp1
              have hr2n : 5 + (1 + m1 + (1 + m2 + r2)) ≤ n ∧ n ≤ 5 + (1 + m1 + (1 + m2 + r2)) := by omega
              have hA5 := hA4'.grown (grown_of_below (row := none) g4) (by simp)
              have hB5 := hB4'.grown (grown_of_below (row := none) g4) (by simp)
              have hC5 := hC4'.grown (grown_of_below (row := none) g4) (by simp)
              have hA6 : HB (w5.setCell ⟨w.heap.size + 1 + 1, 4, none⟩ (.slice a7 m2 c7)) _ _ _ _ _ _ := HB.other hA5 (by omega)
              have hB6 : HB (w5.setCell ⟨w.heap.size + 1 + 1, 4, none⟩ (.slice a7 m2 c7)) _ _ _ _ _ _ := HB.other hB5 (by omega)
              have hC6 := hC5.set4 (.slice a7 m2 c7)
              have e7 : ∀ x, a7 = some x → w.heap.size + 3 ≤ x.block := fun x hx => by have := (g3.base_le hx).1; omega
              have bel6 : Below w.heap.size w (w5.setCell ⟨w.heap.size + 1 + 1, 4, none⟩ (.slice a7 m2 c7)) := (below_then bel4 g4 bel4.size).setCell (by simp; omega) _
              have HT6 : BS (w5.setCell ⟨w.heap.size + 1 + 1, 4, none⟩ (.slice a7 m2 c7)) a6 m1 c6 n1 := RS.setOther (RS.below HT4 g4 (Nat.le_refl _)) (fun x hx => by have := e6 x hx; simp; omega) _
              have HF6 : BS (w5.setCell ⟨w.heap.size + 1 + 1, 4, none⟩ (.slice a7 m2 c7)) a7 m2 c7 n2 := RS.setOther g3.rs (fun x hx => by have := e7 x hx; simp; omega) _
              have hz6 := bel6.size
              clear hp1 Hp6 hr8 hk11 hre2 hce2 hR2 hA4' hB4' hC4' hA5 hB5 hC5 hr6 hr7 hs10 g3 g4 Hn2 bel4 HT4
              rw [rounds_succ]
              cases hT : takeS R2 with
              | none =>
                have Hp9 := Lib.hid (readS_err (show readP (b :: bs) = errR 2 by rw [Hp7.out]; simp [readT, hT]) (by decide))
                have N2 := Lib.hid (taker_none _ R2 hr9 (by omega) hT)
                clear hT
                go_wp2_with fail
                refine N2.out.mono ?_
                rintro e w7 ⟨rfl, j1⟩
                have hA7 := hA6.grown (grown_of_below (row := none) j1) (by simp)
                have hB7 := hB6.grown (grown_of_below (row := none) j1) (by simp)
                have hC7 := hC6.grown (grown_of_below (row := none) j1) (by simp)
                have bel7 := below_then bel6 j1 bel6.size
                have HT7 : BS w7 a6 m1 c6 n1 := RS.below HT6 j1 (Nat.le_refl _)
                have HF7 : BS w7 a7 m2 c7 n2 := RS.below HF6 j1 (Nat.le_refl _)
                have zA7 := hA7.cells
                have zAf7 := hA7.fr
                have zB7 := hB7.cells
                have zC7 := hC7.cells
                go_wp2_with fail
                refine bodyPost_ret (v := .tuple #[.agg #[.bool false, .int .i64 0, .bool false, .slice none 0 0, .slice none 0 0], .int .i64 0, .int .i64 0, .int .i64 2]) (by simp [results, Tryd.results39, go_sem, zA7]) rfl (ReadSPost_err Hp9.out ?_)
                exact set5 bel7 (by omega) _ _ _ _ _
              | some vy =>
                obtain ⟨v0, ys0⟩ := vy
                obtain ⟨m8, hm8⟩ : ∃ m8, ys0.length = m8 := ⟨_, rfl⟩
                have hle8 := takeS_le hT
                have hrl8 := BS.len hr9
                rw [hm8, hrl8] at hle8
                have N2 := Lib.hid (taker_some _ R2 hr9 (by omega) v0 m8 ys0 hm8 hT)
                have hP : readP (b :: bs) = if v0 ≠ 0 then errR 4 else readN (b :: bs) 0 n1 n2 ys0 := by rw [Hp7.out]; simp [readT, hT]
                have HP := Lib.hid hP
                clear hT hm8 hP Hp7 hrl8
                go_wp2_with fail
                refine N2.out.mono ?_
                rintro e w7 ⟨a12, c12, rfl, j0, j1⟩
                have hA7 := hA6.grown (grown_of_below (row := none) j1) (by simp)
                have hB7 := hB6.grown (grown_of_below (row := none) j1) (by simp)
                have hC7 := hC6.grown (grown_of_below (row := none) j1) (by simp)
                have bel7 := below_then bel6 j1 bel6.size
                have HT7 : BS w7 a6 m1 c6 n1 := RS.below HT6 j1 (Nat.le_refl _)
                have HF7 : BS w7 a7 m2 c7 n2 := RS.below HF6 j1 (Nat.le_refl _)
                have zA7 := hA7.cells
                have zAf7 := hA7.fr
                have zB7 := hB7.cells
                have zC7 := hC7.cells
                clear N2
                by_cases hv0 : v0 = 0
                · subst hv0
                  have Hp8 := Lib.hid (show readP (b :: bs) = _ by rw [HP.out, if_neg (by simp)])
                  have hr10 := j0.rs
                  clear HP hA6 hB6 hC6 bel6 HT6 HF6
                  cases hT : takeS ys0 with
                  | none =>
                    have Hp9 := Lib.hid (readS_err (show readP (b :: bs) = errR 2 by rw [Hp8.out, readN, hT]) (by decide))
                    have N2 := Lib.hid (taker_none _ ys0 hr10 (by omega) hT)
                    clear hT
                    go_wp2_with fail
                    refine N2.out.mono ?_
                    rintro e w8 ⟨rfl, j1⟩
                    have hA8 := hA7.grown (grown_of_below (row := none) j1) (by simp)
                    have hB8 := hB7.grown (grown_of_below (row := none) j1) (by simp)
                    have hC8 := hC7.grown (grown_of_below (row := none) j1) (by simp)
                    have bel8 := below_then bel7 j1 bel7.size
                    have HT8 : BS w8 a6 m1 c6 n1 := RS.below HT7 j1 (Nat.le_refl _)
                    have HF8 : BS w8 a7 m2 c7 n2 := RS.below HF7 j1 (Nat.le_refl _)
                    have zA8 := hA8.cells
                    have zAf8 := hA8.fr
                    have zB8 := hB8.cells
                    have zC8 := hC8.cells
                    go_wp2_with fail
                    refine bodyPost_ret (v := .tuple #[.agg #[.bool false, .int .i64 0, .bool false, .slice none 0 0, .slice none 0 0], .int .i64 0, .int .i64 0, .int .i64 2]) (by simp [results, Tryd.results39, go_sem, zA8]) rfl (ReadSPost_err Hp9.out ?_)
                    exact set5 bel8 (by omega) _ _ _ _ _
                  | some vy =>
                    obtain ⟨v, ys⟩ := vy
                    have hv62 := takeS_num_lt2 hT
                    obtain ⟨m9, hm9⟩ : ∃ m9, ys.length = m9 := ⟨_, rfl⟩
                    have hle9 := takeS_le hT
                    have hrl9 := BS.len hr10
                    rw [hm9, hrl9] at hle9
                    have N2 := Lib.hid (taker_some _ ys0 hr10 (by omega) v m9 ys hm9 hT)
                    have hP := Hp8.out
                    rw [readN, hT] at hP
                    simp only [hm9, Hl.out] at hP
                    have HP := Lib.hid hP
                    clear hT hm9 hP hrl9
                    go_wp2_with fail
                    refine N2.out.mono ?_
                    rintro e w8 ⟨a12, c12, rfl, j0, j1⟩
                    have hA8 := hA7.grown (grown_of_below (row := none) j1) (by simp)
                    have hB8 := hB7.grown (grown_of_below (row := none) j1) (by simp)
                    have hC8 := hC7.grown (grown_of_below (row := none) j1) (by simp)
                    have bel8 := below_then bel7 j1 bel7.size
                    have HT8 : BS w8 a6 m1 c6 n1 := RS.below HT7 j1 (Nat.le_refl _)
                    have HF8 : BS w8 a7 m2 c7 n2 := RS.below HF7 j1 (Nat.le_refl _)
                    have zA8 := hA8.cells
                    have zAf8 := hA8.fr
                    have zB8 := hB8.cells
                    have zC8 := hC8.cells
                    by_cases hvn : m9 < v
                    · have Hp9 := Lib.hid (readS_err (show readP (b :: bs) = errR 2 by rw [HP.out, if_pos hvn]) (by decide))
                      go_wp2_with fail
                      refine bodyPost_ret (v := .tuple #[.agg #[.bool false, .int .i64 0, .bool false, .slice none 0 0, .slice none 0 0], .int .i64 0, .int .i64 0, .int .i64 2]) (by simp [results, Tryd.results39, go_sem, zA8]) rfl (ReadSPost_err Hp9.out ?_)
                      exact set5 bel8 (by omega) _ _ _ _ _
                    · by_cases h20v : v < 20
                      · have Hp9 := Lib.hid (show readS (b :: bs) = errR 4 by
                          have h := HP.out
                          rw [if_neg hvn] at h
                          unfold readS
                          rw [h, if_neg (by simp), if_pos (by dsimp only; omega)])
                        go_wp2_with fail
                        refine bodyPost_ret (v := .tuple #[.agg #[.bool false, .int .i64 0, .bool false, .slice none 0 0, .slice none 0 0], .int .i64 0, .int .i64 0, .int .i64 4]) (by simp [results, Tryd.results39, go_sem, zA8]) rfl (ReadSPost_err Hp9.out ?_)
                        exact set5 bel8 (by omega) _ _ _ _ _
                      · have Hp9 := Lib.hid (show readS (b :: bs) = (0, ⟨true, 0, n1, n2⟩, n - m9, n - m9 + v) by
                          have h := HP.out
                          rw [if_neg hvn] at h
                          unfold readS
                          rw [h, if_neg (by simp), if_neg (by dsimp only; omega)])
                        go_wp2_with fail
                        refine bodyPost_ret (v := .tuple #[.agg #[.bool true, .int .i64 0, .bool false, .slice a6 m1 c6, .slice a7 m2 c7], .int .i64 ((n : Int) - (m9 : Int)), .int .i64 ((n : Int) - (m9 : Int) + (v : Int)), .int .i64 0]) (by simp [results, Tryd.results39, go_sem, zA8]) rfl ?_
                        refine ⟨true, 0, a6, m1, c6, a7, m2, c7, ?_, ?_, set5 bel8 (by omega) _ _ _ _ _⟩
                        · rw [Hp9.out]
                          rw [show ((n : Int) - (m9 : Int)) = ((n - m9 : Nat) : Int) by omega]
                          rfl
                        · rw [Hp9.out]
                          exact ⟨a6, m1, c6, a7, m2, c7, rfl, rs5 HT8 _ (fun x hx => by have := e6 x hx; omega) _ _ _ _ _, rs5 HF8 _ (fun x hx => by have := e7 x hx; omega) _ _ _ _ _⟩
                · have hv1 : ((v0 : Int) == 0) = false := by simpa using hv0
                  have hv2 : ((v0 : Int) != 0) = true := by simpa using hv0
                  have Hp9 := Lib.hid (readS_err (show readP (b :: bs) = errR 4 by rw [HP.out, if_pos hv0]) (by decide))
                  clear hv0
                  go_wp2_with fail
                  refine bodyPost_ret (v := .tuple #[.agg #[.bool false, .int .i64 0, .bool false, .slice none 0 0, .slice none 0 0], .int .i64 0, .int .i64 0, .int .i64 4]) (by simp [results, Tryd.results39, go_sem, zA7]) rfl (ReadSPost_err Hp9.out ?_)
                  exact set5 bel7 (by omega) _ _ _ _ _
set_option maxHeartbeats 4000000 in
theorem rr_long1 (b : UInt8) (bs : List UInt8) (hx : BS w a n c (b :: bs)) (hn : n ≤ 140737488355328) (h6 : b.toNat / 64 % 2 ≠ 0) (h7 : ¬ b.toNat < 128) (ht : b.toNat / 16 % 4 = 2) : Calls Tryd.prog 39 #[.slice a n c] w (ReadSPost w (b :: bs)) := by
  have hl := hx.len
  have h0 : ((n : Int) == 0) = false := by simp at hl ⊢; omega
  have hn1 : 1 ≤ n := by simp at hl; omega
  have hb8 := u8_lt b
  have hq : (b.toNat : Int) / 64 % 2 = 1 := by omega
  have h7' : ¬ (b.toNat : Int) < 128 := by omega
  have Hp := Lib.hid (show readP (b :: bs) = readL (b :: bs) 1 by rw [readP, if_neg h6, if_neg h7]; simp [ht])
  have t0 : (b.toNat : Int) / 16 % 4 = 2 := by omega
  have hx1 := (hx.alloc hobj).alloc hobj
  have hx2 := hx1.alloc (lobj 1)
  have hx3 := hx2.alloc vobj
  have hv := rs_v (((w.alloc hobj).alloc hobj).alloc (lobj 1))
  have hb3 := (((below_alloc w hobj).alloc (by simp) hobj).alloc (by simp; omega) (lobj 1)).alloc (by simp; omega) vobj
  clear h6 h7 ht
  by_cases hs : n < 5
  · have Hp2 := Lib.hid (readS_err (show readP (b :: bs) = errR 2 by rw [Hp.out, readL, if_pos (by omega)]) (by decide))
    clear hl
    go_enter Tryd.func39, Tryd.ntmps39
    go_wp2_with (refine LB_index tB hx1 b _ _ rfl rfl _ _ rfl rfl (by omega) (by omega) rfl ?_; intro q hq)
    refine bodyPost_ret (v := .tuple #[.agg #[.bool false, .int .i64 0, .bool false, .slice none 0 0, .slice none 0 0], .int .i64 0, .int .i64 0, .int .i64 2]) (by simp [results, Tryd.results39, go_sem]) rfl (ReadSPost_err Hp2.out ?_)
    go_grown
  · obtain ⟨V, hV⟩ : ∃ V, ((b :: bs).drop 1).take 4 = V := ⟨_, rfl⟩
    obtain ⟨qv, hqv⟩ : ∃ q, (V == [0, 0, 0, 1]) = q := ⟨_, rfl⟩
    have HV0 := Lib.hid hV
    have Hq := Lib.hid hqv
    have t1 : ∀ a', BS (((w.alloc hobj).alloc hobj).alloc (lobj 1)) a' 4 (c - 1) (((b :: bs).drop 1).take (5 - 1)) → Calls Tryd.prog 15 #[.slice a' 4 (c - 1), .slice (some ⟨w.heap.size + 1 + 1 + 1, 0, none⟩) 4 4] ((((w.alloc hobj).alloc hobj).alloc (lobj 1)).alloc vobj) fun e w' => e = .returned (.bool qv) ∧ ((((w.alloc hobj).alloc hobj).alloc (lobj 1)).alloc vobj) = w' := by
      intro a' h
      have h2 := same_any _ (RS.alloc h vobj) hv
      rw [show (5 - 1 : Nat) = 4 from rfl, hV, hqv] at h2
      simpa using h2
    have T1 := Lib.hid t1
    clear hV hqv t1 hv
    cases qv with
    | false =>
      have Hp2 := Lib.hid (readS_err (show readP (b :: bs) = errR 4 by
        rw [Hp.out, readL, if_neg (by omega), if_pos (by rw [HV0.out]; simpa using Hq.out)]) (by decide))
      clear hl
      go_enter Tryd.func39, Tryd.ntmps39
      go_wp2_with (first | (refine LB_index tB hx1 b _ _ rfl rfl _ _ rfl rfl (by omega) (by omega) rfl ?_; intro q hq) | (refine LB_slice_lh tB hx2 1 5 _ _ _ rfl rfl _ _ _ _ rfl rfl rfl rfl rfl (by decide) (by omega) ?_; intro a1 hs1) | (go_at_call 15; refine (T1.out _ hs1).mono ?_; rintro e w1 ⟨rfl, rfl⟩))
      refine bodyPost_ret (v := .tuple #[.agg #[.bool false, .int .i64 0, .bool false, .slice none 0 0, .slice none 0 0], .int .i64 0, .int .i64 0, .int .i64 4]) (by simp [results, Tryd.results39, go_sem]) rfl (ReadSPost_err Hp2.out ?_)
      go_grown
    | true =>
      have hp1 : readP (b :: bs) = if (idS ((b :: bs).drop 5)).1 ≠ 0 then errR (idS ((b :: bs).drop 5)).1 else if (idS ((b :: bs).drop (5 + 1 + (idS ((b :: bs).drop 5)).2.length))).1 ≠ 0 then errR (idS ((b :: bs).drop (5 + 1 + (idS ((b :: bs).drop 5)).2.length))).1 else readT (b :: bs) 1 (idS ((b :: bs).drop 5)).2 (idS ((b :: bs).drop (5 + 1 + (idS ((b :: bs).drop 5)).2.length))).2 ((b :: bs).drop (5 + 1 + (idS ((b :: bs).drop 5)).2.length + 1 + (idS ((b :: bs).drop (5 + 1 + (idS ((b :: bs).drop 5)).2.length))).2.length)) := by
        rw [Hp.out, readL, if_neg (by omega), if_neg (by rw [HV0.out]; simpa using Hq.out)]
      have Hp1 := Lib.hid hp1
      clear hp1 Hp HV0 Hq
      go_enter Tryd.func39, Tryd.ntmps39
      go_wp2_with (first | (refine LB_index tB hx1 b _ _ rfl rfl _ _ rfl rfl (by omega) (by omega) rfl ?_; intro q hq) | (refine LB_slice_lh tB hx2 1 5 _ _ _ rfl rfl _ _ _ _ rfl rfl rfl rfl rfl (by decide) (by omega) ?_; intro a1 hs1) | (go_at_call 15; refine (T1.out _ hs1).mono ?_; rintro e w1 ⟨rfl, rfl⟩; clear T1 hs1) | (refine LB2_slice_l tB hx3 5 _ _ rfl rfl _ _ rfl rfl rfl (by omega) ?_; intro a5 r0 cr0 hre0 hce0 hk5 hr0))
      refine wp_loop_rounds 3 ?_
      rw [rounds_succ]
      have hb5 : ∀ ad, a5 = some ad → ad.block < w.heap.size := fun ad h => by
        obtain ⟨ad0, h1, h2⟩ := hk5 ad h
        rw [h2]; exact hx.block_lt h1 (by omega) (by omega)
      have hb52 : ∀ x, a5 = some x → x.block ≠ w.heap.size + 1 + 1 := fun x hx => by have := hb5 x hx; omega
      have hA : HB ((((w.alloc hobj).alloc hobj).alloc (lobj 1)).alloc vobj) w.heap.size false 0 false (.slice none 0 0) (.slice none 0 0) := by
        unfold HB
        rw [Below.heap_alloc _ vobj _ (by simp <;> omega), Below.heap_alloc _ (lobj 1) _ (by simp <;> omega), Below.heap_alloc _ hobj _ (by simp)]
        exact heap_alloc_new w _
      have hB : HB ((((w.alloc hobj).alloc hobj).alloc (lobj 1)).alloc vobj) (w.heap.size + 1) false 0 false (.slice none 0 0) (.slice none 0 0) := by
        unfold HB
        rw [Below.heap_alloc _ vobj _ (by simp <;> omega), Below.heap_alloc _ (lobj 1) _ (by simp)]
        simpa using heap_alloc_new (w.alloc hobj) hobj
      have hC : HB ((((w.alloc hobj).alloc hobj).alloc (lobj 1)).alloc vobj) (w.heap.size + 1 + 1) true 1 false (.slice none 0 0) (.slice none 0 0) := by
        unfold HB
        rw [Below.heap_alloc _ vobj _ (by simp)]
        simpa using heap_alloc_new ((w.alloc hobj).alloc hobj) (lobj 1)
      have hl5 := hr0.len
      rw [List.length_drop] at hl5
      obtain ⟨R0, hR0⟩ : ∃ R, (b :: bs).drop 5 = R := ⟨_, rfl⟩
      have hp1 := Hp1.out
      have hd0 : ∀ k, (b :: bs).drop (5 + k) = R0.drop k := fun k => by rw [← hR0, List.drop_drop]
      simp only [hR0, Nat.add_assoc, hd0] at hp1
      rw [hR0] at hr0
      have Hp3 := Lib.hid hp1
      have hn5 : 5 + r0 ≤ n ∧ n ≤ 5 + r0 := by omega
      have hrl := hr0.len
      clear hp1 Hp1 hd0 hR0 hl5 hk5 hre0 hce0
      have Hl := Lib.hid hl
      clear hl
      obtain ⟨rfl, hi⟩ | ⟨b0, R0', rfl, hi⟩ := idS_cases R0
      · obtain rfl : r0 = 0 := by simpa using hrl.symm
        have Hp9 := Lib.hid (readS_err (show readP (b :: bs) = errR 2 by rw [Hp3.out, hi]; rfl) (by decide))
        go_wp2_with fail
        refine bodyPost_ret (v := .tuple #[.agg #[.bool false, .int .i64 0, .bool false, .slice none 0 0, .slice none 0 0], .int .i64 0, .int .i64 0, .int .i64 2]) (by simp [results, Tryd.results39, go_sem]) rfl (ReadSPost_err Hp9.out ?_)
        go_grown
      · have hb0 := u8_lt b0
        have hr1 : 1 ≤ r0 := by simp at hrl; omega
        have hr2 : R0'.length + 1 ≤ r0 ∧ r0 ≤ R0'.length + 1 := by simp at hrl; omega
        have hr3 : ((r0 : Int) == 0) = false := by simp; omega
        obtain ⟨h20, hi⟩ | ⟨h20, hsh, hi⟩ | ⟨h20, hsh, hi⟩ := hi
        · have Hp9 := Lib.hid (readS_err (show readP (b :: bs) = errR 4 by rw [Hp3.out, hi]; rfl) (by decide))
          clear hi hrl
          go_wp2_with (refine LB_index tB hr0 b0 _ _ rfl rfl _ _ rfl rfl (by omega) (by omega) rfl ?_; intro q hq)
          refine bodyPost_ret (v := .tuple #[.agg #[.bool false, .int .i64 0, .bool false, .slice none 0 0, .slice none 0 0], .int .i64 0, .int .i64 0, .int .i64 4]) (by simp [results, Tryd.results39, go_sem]) rfl (ReadSPost_err Hp9.out ?_)
          go_grown
        · have Hp9 := Lib.hid (readS_err (show readP (b :: bs) = errR 2 by rw [Hp3.out, hi]; rfl) (by decide))
          clear hi hrl
          go_wp2_with (refine LB_index tB hr0 b0 _ _ rfl rfl _ _ rfl rfl (by omega) (by omega) rfl ?_; intro q hq)
          refine bodyPost_ret (v := .tuple #[.agg #[.bool false, .int .i64 0, .bool false, .slice none 0 0, .slice none 0 0], .int .i64 0, .int .i64 0, .int .i64 2]) (by simp [results, Tryd.results39, go_sem]) rfl (ReadSPost_err Hp9.out ?_)
          go_grown
        · obtain ⟨m1, hm1⟩ : ∃ m1, b0.toNat = m1 := ⟨_, rfl⟩
          rw [hm1] at hsh h20 hi
          have hm1' : (b0.toNat : Int) = m1 := by omega
          obtain ⟨n1, hn1e⟩ : ∃ n1, R0'.take m1 = n1 := ⟨_, rfl⟩
          have hn1l : n1.length = m1 := by rw [← hn1e, List.length_take]; omega
          rw [hn1e] at hi
          have hp1 := Hp3.out
          rw [hi] at hp1
          simp only [hn1l, ne_eq, not_true, if_false, drop_cons rfl] at hp1
          have Hp4 := Lib.hid hp1
          have Hn1 : Hid (((b0 :: R0').drop 1).take m1 = n1) := hn1e
          clear hp1 Hp3 hi hrl hn1e hn1l hm1 hb0
          go_wp2_with (first | (refine LB_index tB hr0 b0 _ _ rfl rfl _ _ rfl rfl (by omega) (by omega) rfl ?_; intro q hq) | (refine LB_slice_lh tB hr0 1 (1 + m1) _ _ _ rfl rfl _ _ _ _ rfl rfl rfl rfl (by omega) (by omega) (by omega) ?_; rw [Nat.add_sub_cancel_left, Hn1.out]; intro a9 hs9) | (go_at_call 18; refine (copy_any _ hs9 (by omega)).mono ?_; rintro e w4 ⟨a6, c6, rfl, g1, g2⟩; have z0 := (hA.grown (grown_of_below (row := none) g2) (by simp)).cells; have z1 := (hA.grown (grown_of_below (row := none) g2) (by simp)).fr; have z2 := (hB.grown (grown_of_below (row := none) g2) (by simp)).cells; have z3 := (hC.grown (grown_of_below (row := none) g2) (by simp)).cells; have z4 := (hC.grown (grown_of_below (row := none) g2) (by simp)).fr; have hr4 := RS.setOther (RS.below hr0 g2 (Nat.le_refl _)) (ad := ⟨w.heap.size + 1 + 1, 3, none⟩) hb52 (.slice a6 m1 c6)) | (refine LB2_slice_l tB hr4 (1 + m1) _ _ rfl rfl _ _ rfl rfl rfl (by omega) ?_; intro a8 r1 cr1 hre1 hce1 hk8 hr5))
          have hp1 := Hp4.out
          have hr6 : BS (w4.setCell ⟨w.heap.size + 1 + 1, 3, none⟩ (.slice a6 m1 c6)) a8 r1 cr1 (R0'.drop m1) := by rw [← drop_cons (l := b0 :: R0') rfl m1]; exact hr5
          have hr6l := hr6.len
          have hr1n : 5 + (1 + m1 + r1) ≤ n ∧ n ≤ 5 + (1 + m1 + r1) := by omega
          have hA4 := hA.grown (grown_of_below (row := none) g2) (by simp)
          have hB4 := hB.grown (grown_of_below (row := none) g2) (by simp)
          have hC4 := hC.grown (grown_of_below (row := none) g2) (by simp)
          have hA4' : HB (w4.setCell ⟨w.heap.size + 1 + 1, 3, none⟩ (.slice a6 m1 c6)) _ _ _ _ _ _ := HB.other hA4 (by omega)
          have hB4' : HB (w4.setCell ⟨w.heap.size + 1 + 1, 3, none⟩ (.slice a6 m1 c6)) _ _ _ _ _ _ := HB.other hB4 (by omega)
          have hC4' := hC4.set3 (.slice a6 m1 c6)
          have e6 : ∀ x, a6 = some x → w.heap.size + 3 ≤ x.block := fun x hx => by have := (g1.base_le hx).1; simp at this; omega
          have bel4 : Below w.heap.size w (w4.setCell ⟨w.heap.size + 1 + 1, 3, none⟩ (.slice a6 m1 c6)) := (below_then hb3 g2 (by simp; omega)).setCell (by simp; omega) _
          have hz4 := hC4'.lt
          have HT4 : BS (w4.setCell ⟨w.heap.size + 1 + 1, 3, none⟩ (.slice a6 m1 c6)) a6 m1 c6 n1 := RS.setOther g1.rs (fun x hx => by have := e6 x hx; simp; omega) _
          have hb8' : ∀ x, a8 = some x → x.block ≠ w.heap.size + 1 + 1 := fun x hx => by obtain ⟨y, h1, h2⟩ := hk8 x hx; rw [h2]; exact hb52 y h1
          clear hr5 hk8 hre1 hce1 hA4 hB4 hC4 hA hB hC hb3 hr4 hr0 hs9 g1 g2 Hn1
          rw [rounds_succ]
          obtain ⟨R1, hR1⟩ : ∃ R1, R0'.drop m1 = R1 := ⟨_, rfl⟩
          have hd2 : ∀ k, R0'.drop (m1 + k) = R1.drop k := fun k => by rw [← hR1, List.drop_drop]
          simp only [hR1, hd2] at hp1
          rw [hR1] at hr6 hr6l
          have Hp5 := Lib.hid hp1
          clear hp1 Hp4 hd2 hR1
          obtain ⟨rfl, hi⟩ | ⟨b1, R1', rfl, hi⟩ := idS_cases R1
          · obtain rfl : r1 = 0 := by simpa using hr6l.symm
            have Hp9 := Lib.hid (readS_err (show readP (b :: bs) = errR 2 by rw [Hp5.out, hi]; rfl) (by decide))
            go_wp2_with fail
            refine bodyPost_ret (v := .tuple #[.agg #[.bool false, .int .i64 0, .bool false, .slice none 0 0, .slice none 0 0], .int .i64 0, .int .i64 0, .int .i64 2]) (by simp [results, Tryd.results39, go_sem, z0]) rfl (ReadSPost_err Hp9.out ?_)
            exact set5 bel4 (by omega) _ _ _ _ _
          · have hb1 := u8_lt b1
            have hr1a : 1 ≤ r1 := by simp at hr6l; omega
            have hr2a : R1'.length + 1 ≤ r1 ∧ r1 ≤ R1'.length + 1 := by simp at hr6l; omega
            have hr3a : ((r1 : Int) == 0) = false := by simp; omega
            obtain ⟨h20', hi⟩ | ⟨h20', hsh', hi⟩ | ⟨h20', hsh', hi⟩ := hi
            · have Hp9 := Lib.hid (readS_err (show readP (b :: bs) = errR 4 by rw [Hp5.out, hi]; rfl) (by decide))
              clear hi hr6l
              go_wp2_with (refine LB_index tB hr6 b1 _ _ rfl rfl _ _ rfl rfl (by omega) (by omega) rfl ?_; intro q hq)
              refine bodyPost_ret (v := .tuple #[.agg #[.bool false, .int .i64 0, .bool false, .slice none 0 0, .slice none 0 0], .int .i64 0, .int .i64 0, .int .i64 4]) (by simp [results, Tryd.results39, go_sem, z0]) rfl (ReadSPost_err Hp9.out ?_)
              exact set5 bel4 (by omega) _ _ _ _ _
            · have Hp9 := Lib.hid (readS_err (show readP (b :: bs) = errR 2 by rw [Hp5.out, hi]; rfl) (by decide))
              clear hi hr6l
              go_wp2_with (refine LB_index tB hr6 b1 _ _ rfl rfl _ _ rfl rfl (by omega) (by omega) rfl ?_; intro q hq)
              refine bodyPost_ret (v := .tuple #[.agg #[.bool false, .int .i64 0, .bool false, .slice none 0 0, .slice none 0 0], .int .i64 0, .int .i64 0, .int .i64 2]) (by simp [results, Tryd.results39, go_sem, z0]) rfl (ReadSPost_err Hp9.out ?_)
              exact set5 bel4 (by omega) _ _ _ _ _
            · obtain ⟨m2, hm2⟩ : ∃ m2, b1.toNat = m2 := ⟨_, rfl⟩
              rw [hm2] at hsh' h20' hi
              have hm2' : (b1.toNat : Int) = m2 := by omega
              obtain ⟨n2, hn2e⟩ : ∃ n2, R1'.take m2 = n2 := ⟨_, rfl⟩
              have hn2l : n2.length = m2 := by rw [← hn2e, List.length_take]; omega
              rw [hn2e] at hi
              have hp1 := Hp5.out
              rw [hi] at hp1
              simp only [hn2l, not_true, if_false, drop_cons rfl] at hp1
              have Hp6 := Lib.hid hp1
              have Hn2 : Hid (((b1 :: R1').drop 1).take m2 = n2) := hn2e
              clear hp1 Hp5 hi hr6l hn2e hn2l hm2 hb1
              go_wp2_with (first | (refine LB_index tB hr6 b1 _ _ rfl rfl _ _ rfl rfl (by omega) (by omega) rfl ?_; intro q hq) | (refine LB_slice_lh tB hr6 1 (1 + m2) _ _ _ rfl rfl _ _ _ _ rfl rfl rfl rfl (by omega) (by omega) (by omega) ?_; rw [Nat.add_sub_cancel_left, Hn2.out]; intro a10 hs10) | (go_at_call 18; refine (copy_any _ hs10 (by omega)).mono ?_; rintro e w5 ⟨a7, c7, rfl, g3, g4⟩; clear z0 z1 z2 z3 z4; have y0 := (hA4'.grown (grown_of_below (row := none) g4) (by simp)).cells; have y1 := (hA4'.grown (grown_of_below (row := none) g4) (by simp)).fr; have y2 := (hB4'.grown (grown_of_below (row := none) g4) (by simp)).cells; have y3 := (hC4'.grown (grown_of_below (row := none) g4) (by simp)).cells; have y4 := (hC4'.grown (grown_of_below (row := none) g4) (by simp)).fr; have hr7 := RS.setOther (RS.below hr6 g4 (Nat.le_refl _)) (ad := ⟨w.heap.size + 1 + 1, 4, none⟩) hb8' (.slice a7 m2 c7)) | (refine LB2_slice_l tB hr7 (1 + m2) _ _ rfl rfl _ _ rfl rfl rfl (by omega) ?_; intro a11 r2 cr2 hre2 hce2 hk11 hr8))
              have hr9 : BS (w5.setCell ⟨w.heap.size + 1 + 1, 4, none⟩ (.slice a7 m2 c7)) a11 r2 cr2 (R1'.drop m2) := by rw [← drop_cons (l := b1 :: R1') rfl m2]; exact hr8
              obtain ⟨R2, hR2⟩ : ∃ R2, R1'.drop m2 = R2 := ⟨_, rfl⟩
              have hp1 := Hp6.out
              rw [hR2] at hr9 hp1
              have Hp7 := Lib.hid hp1
              have hr2n : 5 + (1 + m1 + (1 + m2 + r2)) ≤ n ∧ n ≤ 5 + (1 + m1 + (1 + m2 + r2)) := by omega
              have hA5 := hA4'.grown (grown_of_below (row := none) g4) (by simp)
              have hB5 := hB4'.grown (grown_of_below (row := none) g4) (by simp)
              have hC5 := hC4'.grown (grown_of_below (row := none) g4) (by simp)
              have hA6 : HB (w5.setCell ⟨w.heap.size + 1 + 1, 4, none⟩ (.slice a7 m2 c7)) _ _ _ _ _ _ := HB.other hA5 (by omega)
              have hB6 : HB (w5.setCell ⟨w.heap.size + 1 + 1, 4, none⟩ (.slice a7 m2 c7)) _ _ _ _ _ _ := HB.other hB5 (by omega)
              have hC6 := hC5.set4 (.slice a7 m2 c7)
              have e7 : ∀ x, a7 = some x → w.heap.size + 3 ≤ x.block := fun x hx => by have := (g3.base_le hx).1; omega
              have bel6 : Below w.heap.size w (w5.setCell ⟨w.heap.size + 1 + 1, 4, none⟩ (.slice a7 m2 c7)) := (below_then bel4 g4 bel4.size).setCell (by simp; omega) _
              have HT6 : BS (w5.setCell ⟨w.heap.size + 1 + 1, 4, none⟩ (.slice a7 m2 c7)) a6 m1 c6 n1 := RS.setOther (RS.below HT4 g4 (Nat.le_refl _)) (fun x hx => by have := e6 x hx; simp; omega) _
              have HF6 : BS (w5.setCell ⟨w.heap.size + 1 + 1, 4, none⟩ (.slice a7 m2 c7)) a7 m2 c7 n2 := RS.setOther g3.rs (fun x hx => by have := e7 x hx; simp; omega) _
              have hz6 := bel6.size
              clear hp1 Hp6 hr8 hk11 hre2 hce2 hR2 hA4' hB4' hC4' hA5 hB5 hC5 hr6 hr7 hs10 g3 g4 Hn2 bel4 HT4
              rw [rounds_succ]
              have Hp8 := Lib.hid (show readP (b :: bs) = readN (b :: bs) 1 n1 n2 R2 by rw [Hp7.out]; simp [readT])
              clear Hp7
              cases hT : takeS R2 with
              | none =>
                have Hp9 := Lib.hid (readS_err (show readP (b :: bs) = errR 2 by rw [Hp8.out, readN, hT]) (by decide))
                have N2 := Lib.hid (taker_none _ R2 hr9 (by omega) hT)
                clear hT
                go_wp2_with fail
                refine N2.out.mono ?_
                rintro e w8 ⟨rfl, j1⟩
                have hA8 := hA6.grown (grown_of_below (row := none) j1) (by simp)
                have hB8 := hB6.grown (grown_of_below (row := none) j1) (by simp)
                have hC8 := hC6.grown (grown_of_below (row := none) j1) (by simp)
                have bel8 := below_then bel6 j1 bel6.size
                have HT8 : BS w8 a6 m1 c6 n1 := RS.below HT6 j1 (Nat.le_refl _)
                have HF8 : BS w8 a7 m2 c7 n2 := RS.below HF6 j1 (Nat.le_refl _)
                have zA8 := hA8.cells
                have zAf8 := hA8.fr
                have zB8 := hB8.cells
                have zC8 := hC8.cells
                go_wp2_with fail
                refine bodyPost_ret (v := .tuple #[.agg #[.bool false, .int .i64 0, .bool false, .slice none 0 0, .slice none 0 0], .int .i64 0, .int .i64 0, .int .i64 2]) (by simp [results, Tryd.results39, go_sem, zA8]) rfl (ReadSPost_err Hp9.out ?_)
                exact set5 bel8 (by omega) _ _ _ _ _
              | some vy =>
                obtain ⟨v, ys⟩ := vy
                have hv62 := takeS_num_lt2 hT
                obtain ⟨m9, hm9⟩ : ∃ m9, ys.length = m9 := ⟨_, rfl⟩
                have hle9 := takeS_le hT
                have hrl9 := BS.len hr9
                rw [hm9, hrl9] at hle9
                have N2 := Lib.hid (taker_some _ R2 hr9 (by omega) v m9 ys hm9 hT)
                have hP := Hp8.out
                rw [readN, hT] at hP
                simp only [hm9, Hl.out] at hP
                have HP := Lib.hid hP
                clear hT hm9 hP hrl9
                go_wp2_with fail
                refine N2.out.mono ?_
                rintro e w8 ⟨a12, c12, rfl, j0, j1⟩
                have hA8 := hA6.grown (grown_of_below (row := none) j1) (by simp)
                have hB8 := hB6.grown (grown_of_below (row := none) j1) (by simp)
                have hC8 := hC6.grown (grown_of_below (row := none) j1) (by simp)
                have bel8 := below_then bel6 j1 bel6.size
                have HT8 : BS w8 a6 m1 c6 n1 := RS.below HT6 j1 (Nat.le_refl _)
                have HF8 : BS w8 a7 m2 c7 n2 := RS.below HF6 j1 (Nat.le_refl _)
                have zA8 := hA8.cells
                have zAf8 := hA8.fr
                have zB8 := hB8.cells
                have zC8 := hC8.cells
                by_cases hvn : m9 < v
                · have Hp9 := Lib.hid (readS_err (show readP (b :: bs) = errR 2 by rw [HP.out, if_pos hvn]) (by decide))
                  go_wp2_with fail
                  refine bodyPost_ret (v := .tuple #[.agg #[.bool false, .int .i64 0, .bool false, .slice none 0 0, .slice none 0 0], .int .i64 0, .int .i64 0, .int .i64 2]) (by simp [results, Tryd.results39, go_sem, zA8]) rfl (ReadSPost_err Hp9.out ?_)
                  exact set5 bel8 (by omega) _ _ _ _ _
                · by_cases h20v : v < 20
                  · have Hp9 := Lib.hid (show readS (b :: bs) = errR 4 by
                      have h := HP.out
                      rw [if_neg hvn] at h
                      unfold readS
                      rw [h, if_neg (by simp), if_pos (by dsimp only; omega)])
                    go_wp2_with fail
                    refine bodyPost_ret (v := .tuple #[.agg #[.bool false, .int .i64 0, .bool false, .slice none 0 0, .slice none 0 0], .int .i64 0, .int .i64 0, .int .i64 4]) (by simp [results, Tryd.results39, go_sem, zA8]) rfl (ReadSPost_err Hp9.out ?_)
                    exact set5 bel8 (by omega) _ _ _ _ _
                  · have Hp9 := Lib.hid (show readS (b :: bs) = (0, ⟨true, 1, n1, n2⟩, n - m9, n - m9 + v) by
                      have h := HP.out
                      rw [if_neg hvn] at h
                      unfold readS
                      rw [h, if_neg (by simp), if_neg (by dsimp only; omega)])
                    go_wp2_with fail
                    refine bodyPost_ret (v := .tuple #[.agg #[.bool true, .int .i64 1, .bool false, .slice a6 m1 c6, .slice a7 m2 c7], .int .i64 ((n : Int) - (m9 : Int)), .int .i64 ((n : Int) - (m9 : Int) + (v : Int)), .int .i64 0]) (by simp [results, Tryd.results39, go_sem, zA8]) rfl ?_
                    refine ⟨true, 1, a6, m1, c6, a7, m2, c7, ?_, ?_, set5 bel8 (by omega) _ _ _ _ _⟩
                    · rw [Hp9.out]
                      rw [show ((n : Int) - (m9 : Int)) = ((n - m9 : Nat) : Int) by omega]
                      rfl
                    · rw [Hp9.out]
                      exact ⟨a6, m1, c6, a7, m2, c7, rfl, rs5 HT8 _ (fun x hx => by have := e6 x hx; omega) _ _ _ _ _, rs5 HF8 _ (fun x hx => by have := e7 x hx; omega) _ _ _ _ _⟩
end rr
end Go.Proofs.YtlncnjcbgfeaoaaDoor
