/- texts DA DB DC in one. -/
import Derived.Test.YtlncnjcbgfeaoaaDoorYag
import Derived.Test.YtlncnjcbgfeaoaaDoorYap
import Derived.Test.YtlncnjcbgfeaoaaDoorYac
import Derived.Deep.QuietTactic
import Derived.BigQuiet
import Derived.Deep.RegionHeld3

/- rows of numbers; the reference's carry. -/
set_option maxRecDepth 100000
set_option linter.unusedVariables false
namespace Go.Proofs.YtlncnjcbgfeaoaaDoor
open Go.RowKit
def IV (x : Nat) : Value := .int .i64 (x : Int)
theorem tI : STy Tryd.prog 121 3 (.int .i64 0) 1 8 := ⟨Tryd.underlying121, by kernel_rfl, rfl, by decide⟩
abbrev IS (w : World) (a : Option Addr) (n c : Nat) (l : List Nat) : Prop := RS w 1 a n c (l.map IV)
theorem IS.len {w : World} {a : Option Addr} {n c : Nat} {l : List Nat} (h : IS w a n c l) : l.length = n := by have := RS.len h; simpa using this
theorem RS.at_ {w : World} {a : Option Addr} {n c : Nat} {vs : List Value} (h : RS w 1 a n c vs) (hn : 0 < n) : ∃ b o, a = some ⟨b, o, none⟩ ∧ ∀ j x, vs[j]? = some x → w.cell? ⟨b, o + j, none⟩ = some x := by
  cases a with
  | none => have := (RS.nil_inv h).1; omega
  | some ad =>
    obtain ⟨h1, h2⟩ := h.2.2.2.2.2 ad rfl
    have hs := h1 (Nat.lt_of_lt_of_le hn (RS.le h))
    refine ⟨ad.block, ad.off, by cases ad; simp_all, fun j x hx => h2 j x hx⟩
theorem iv_get {l : List Nat} {i x : Nat} (h : l[i]? = some x) : (l.map IV)[i]? = some (.int .i64 (x : Int)) := by rw [List.getElem?_map, h]; rfl
theorem one_IV (l : List Nat) : ∀ v ∈ l.map IV, v.oneCell' = true := by
  intro v hv; obtain ⟨b, _, rfl⟩ := List.mem_map.1 hv; rfl
structure EN' (a b : List Nat) : Prop where
  h : a = b
set_option maxHeartbeats 2000000 in
theorem rcarry_any (w : World) {a : Option Addr} {n c : Nat} {l : List Nat} (hx : IS w a n c l) (N : Nat) (hN : N ≤ 1000) (hle : ∀ x ∈ l, x ≤ 255 * 1099511627776) :
    Calls Tryd.prog 97 #[.slice a n c, .int .i64 (N : Int)] w fun e w' => e = .returned (.slice (some ⟨w.heap.size, 0, none⟩) N N) ∧ OW w' w.heap.size 3 1 (some ⟨w.heap.size, 0, none⟩) N N ((digs (valD l) N).map IV) ∧ Below w.heap.size w w' := by
  have hln := IS.len hx
  have HX := Lib.hid hx
  have Hle := Lib.hid hle
  have Hres := EN'.mk (carO_all l N)
  clear hx hle
  go_enter Tryd.func97, Tryd.ntmps97
  go_upto_region 2 with (refine L_make tI w.heap.size N rfl rfl _ _ rfl rfl _ _ _ _ rfl rfl (by omega) (by omega) (by omega) (by unfold maxLen; omega) (Nat.le_refl _) ?_; intro w1 o1 g1)
  have o1' : OW w1 w.heap.size 3 1 (some ⟨w.heap.size, 0, none⟩) N N ((carO l N 0).map IV) := by rw [carO_zero, List.map_replicate]; exact o1
  have b1 := below_none (Below.refl _ w) g1 (Nat.le_refl _)
  clear o1 g1
  go_wp2
  go_loopw [6, 12] (fun s6 s12 wr => ∃ i : Nat, i ≤ N ∧ s12 = .int .i64 (i : Int) ∧ s6 = .int .i64 ((cK l i : Nat) : Int) ∧ OW wr w.heap.size 3 1 (some ⟨w.heap.size, 0, none⟩) N N ((carO l N i).map IV) ∧ Below w.heap.size w wr) (fun _ s12 _ => N - (intOf s12).toNat)
  case atStart => exact ⟨0, by omega, rfl, rfl, o1', b1⟩
  case round =>
    obtain ⟨i, hi, rfl, rfl, ho, hb⟩ := hrel
    clear o1' b1
    by_cases hlt : i < N
    · have hk := cK_le (m := 1099511627776) Hle.out i
      obtain ⟨y, hy⟩ : ∃ y, (carO l N i)[i]? = some y := ⟨_, List.getElem?_eq_getElem (by rw [carO_len]; exact hlt)⟩
      have q := ho.cell i _ (iv_get hy)
      have f := ho.frozen i
      have h2 := ho.setCell i (IV ((cK l i + l.getD i 0) % 256)) rfl
      rw [← List.map_set, carO_set l N i hlt] at h2
      have hb2 := hb.grown (grownBy_setCell wr ⟨w.heap.size, i, none⟩ (IV ((cK l i + l.getD i 0) % 256))) hb.size (fun k hk => by cases hk; exact Nat.le_refl _)
      have hnx : cK l (i + 1) = (cK l i + l.getD i 0) / 256 := rfl
      obtain ⟨C, hC⟩ : ∃ C, cK l i = C := ⟨_, rfl⟩
      obtain ⟨C2, hC2⟩ : ∃ C2, cK l (i + 1) = C2 := ⟨_, rfl⟩
      have hG := hb.size
      rw [hC, hC2] at hnx
      rw [hC] at h2 hb2 hk ⊢
      have HC2 := Lib.hid hC2
      by_cases hin : i < n
      · obtain ⟨x, ex⟩ : ∃ x, l[i]? = some x := ⟨_, List.getElem?_eq_getElem (by omega)⟩
        have hxle := Hle.out x (List.mem_of_getElem? ex)
        have gx : l.getD i 0 = x := by rw [List.getD_eq_getElem?_getD, ex]; rfl
        have hx1 := RS.below HX.out hb (Nat.le_refl _)
        obtain ⟨bb, oo, rfl, hcell⟩ := RS.at_ hx1 (by omega)
        have qx := hcell i _ (iv_get ex)
        have hmx := RS.max hx1
        have hlc := RS.le hx1
        unfold maxLen at hmx
        rw [gx] at h2 hb2 hnx
        have hv : IV ((C + x) % 256) = .int .i64 (((C : Int) + (x : Int)) % 256) := by unfold IV; congr 1
        have hv2 : ((C : Int) + (x : Int)) / 256 = (C2 : Int) := by omega
        rw [hv] at h2 hb2
        have H2 := Lib.hid h2
        have HB2 := Lib.hid hb2
        clear hy ho hb h2 hb2 hC hC2 hx1 hcell ex gx hv hnx
        have HV2 := Lib.hid hv2
        clear hv2
        go_wp2
        go_roundw
        case rel => exact ⟨i + 1, by omega, by go_num, by rw [HC2.out, ← HV2.out], H2.out, HB2.out⟩
        case measure => simp [intOf]; omega
      · have gx : l.getD i 0 = 0 := by rw [List.getD_eq_getElem?_getD, List.getElem?_eq_none (by omega)]; rfl
        rw [gx, Nat.add_zero] at h2 hb2 hnx
        have hv : IV (C % 256) = .int .i64 ((C : Int) % 256) := by unfold IV; congr 1
        have hv2 : (C : Int) / 256 = (C2 : Int) := by omega
        rw [hv] at h2 hb2
        have H2 := Lib.hid h2
        have HB2 := Lib.hid hb2
        clear hy ho hb h2 hb2 hC hC2 gx hv hnx
        have HV2 := Lib.hid hv2
        clear hv2
        go_wp2
        go_roundw
        case rel => exact ⟨i + 1, by omega, by go_num, by rw [HC2.out, ← HV2.out], H2.out, HB2.out⟩
        case measure => simp [intOf]; omega
    · obtain rfl : i = N := by omega
      rw [Hres.h] at ho
      have HO := Lib.hid ho
      have HB := Lib.hid hb
      clear ho hb
      go_wp2
      go_ret
      exact ⟨rfl, HO.out, HB.out⟩
end Go.Proofs.YtlncnjcbgfeaoaaDoor

/- the reference's less. -/
set_option maxRecDepth 100000
set_option linter.unusedVariables false
namespace Go.Proofs.YtlncnjcbgfeaoaaDoor
open Go.RowKit
theorem RS.drewN {w : World} {z : Nat} {a : Option Addr} {n c : Nat} {vs : List Value} (h : RS w z a n c vs) (k : Nat) : RS (w.drewN k) z a n c vs := h
theorem below_drewN {B : Nat} {a w : World} (h : Below B a w) (k : Nat) : Below B a (w.drewN k) := ⟨h.os, h.tape, h.output, h.size, h.block⟩
structure LQ (xs ys : List Nat) (k : Nat) : Prop where
  h : xs.drop k = ys.drop k
set_option maxHeartbeats 2000000 in
theorem rless_any (w : World) {a b : Option Addr} {n c d : Nat} {xs ys : List Nat} (hx : IS w a n c xs) (hy : IS w b n d ys) (hn : 0 < n) (hx2 : ∀ z ∈ xs, z < 256) (hy2 : ∀ z ∈ ys, z < 256) :
    Calls Tryd.prog 102 #[.slice a n c, .slice b n d] w fun e w' => e = .returned (.bool (lessS xs ys)) ∧ Below w.heap.size w w' := by
  have hxl := IS.len hx
  have hyl := IS.len hy
  have hmx := RS.max hx
  have hmy := RS.max hy
  have hlx := RS.le hx
  have hly := RS.le hy
  unfold maxLen at hmx hmy
  obtain ⟨b1, o1, rfl, hc1⟩ := RS.at_ hx hn
  obtain ⟨b2, o2, rfl, hc2⟩ := RS.at_ hy hn
  have HC1 := Lib.hid hc1
  have HC2 := Lib.hid hc2
  have HX2 := Lib.hid hx2
  have HY2 := Lib.hid hy2
  have hq0 : LQ xs ys n := ⟨by rw [List.drop_of_length_le (by omega), List.drop_of_length_le (by omega)]⟩
  clear hc1 hc2 hx hy hx2 hy2
  go_enter Tryd.func102, Tryd.ntmps102
  go_wp2
  go_loopw [5] (fun s5 wr => ∃ (k m : Nat), k ≤ n ∧ s5 = .int .i64 ((k : Int) - 1) ∧ LQ xs ys k ∧ wr = w.drewN m) (fun s5 _ => (intOf s5 + 1).toNat)
  case atStart => exact ⟨n, 0, by omega, rfl, hq0, rfl⟩
  case round =>
    obtain ⟨k, m, hk, rfl, hq, rfl⟩ := hrel
    clear hq0
    cases k with
    | zero =>
      have hE : xs = ys := by simpa using hq.h
      have hr := less_eq hE
      have HR := Lib.hid hr
      clear hE hr hq
      go_wp2
      go_ret
      rw [HR.out]
      exact ⟨rfl, below_drewN (Below.refl _ _) _⟩
    | succ j =>
      rw [show (((j + 1 : Nat) : Int) - 1) = (j : Int) by omega]
      obtain ⟨x, ex⟩ : ∃ x, xs[j]? = some x := ⟨_, List.getElem?_eq_getElem (by omega)⟩
      obtain ⟨y, ey⟩ : ∃ y, ys[j]? = some y := ⟨_, List.getElem?_eq_getElem (by omega)⟩
      have q1 := HC1.out j _ (iv_get ex)
      have q2 := HC2.out j _ (iv_get ey)
      have lx := HX2.out x (List.mem_of_getElem? ex)
      have ly := HY2.out y (List.mem_of_getElem? ey)
      by_cases hxy : x = y
      · subst hxy
        have hq2 : LQ xs ys j := ⟨by
          obtain ⟨h1, h2⟩ := List.getElem?_eq_some_iff.1 ex
          obtain ⟨h3, h4⟩ := List.getElem?_eq_some_iff.1 ey
          rw [List.drop_eq_getElem_cons h1, List.drop_eq_getElem_cons h3, hq.h, h2, h4]⟩
        clear ex ey hq
        go_upto_region 4 with (fail)
        go_quiet (fail)
        go_wp2
        go_roundw
        case rel => exact ⟨j, _, by omega, by go_num, hq2, rfl⟩
        case measure => simp [intOf]
      · have hr := less_top HX2.out HY2.out (by omega) (by omega) ex ey hxy hq.h
        have HR := Lib.hid hr
        clear ex ey hq hr
        go_upto_region 4 with (fail)
        go_quiet (fail)
        go_upto_region 5 with (fail)
        go_quiet (fail)
        go_wp2
        go_ret
        refine ⟨?_, below_drewN (below_drewN (below_drewN (Below.refl _ _) _) _) _⟩
        rw [← HR.out]
        simp
end Go.Proofs.YtlncnjcbgfeaoaaDoor

/- the reference's left: a long number modulo 2^130 - 5. -/
set_option maxRecDepth 100000
set_option linter.unusedVariables false
namespace Go.Proofs.YtlncnjcbgfeaoaaDoor
open Go.RowKit
theorem ho_le {B : Nat} {w W : World} (h : Below B w W) (hB : B ≤ w.heap.size := by exact Nat.le_refl _) : B ≤ W.heap.size := Nat.le_trans hB h.size
structure LQ3 (W w5 wr : World) (gl X i : Nat) (a : Option Addr) (c n : Nat) (l : List Nat) : Prop where
  own : OW wr W.heap.size 3 1 a n c (l.map IV)
  lw : LW X i l
  gr : w5.grownBy wr (some gl)
  at_ : ∀ ad, a = some ad → ad.block = gl ∨ w5.heap.size ≤ ad.block
theorem LQ3.app {W w5 wr w6 : World} {gl X i : Nat} {a a6 : Option Addr} {c n c6 : Nat} {l : List Nat} (h : LQ3 W w5 wr gl X i a c n l) (hn : n ≤ i) (h22 : i ≤ 22) {o : Obj} (o6 : OW w6 W.heap.size 3 1 a6 (n + 1) c6 (l.map IV ++ [.int .i64 0]))
    (g6 : (wr.alloc o).grownBy w6 (a.map (·.block))) (n6 : ∀ ad, a6 = some ad → a = some ad ∨ (wr.alloc o).heap.size ≤ ad.block) : LQ3 W w5 w6 gl X i a6 c6 (n + 1) (l ++ [0]) := by
  have hln := IS.len h.own.rs
  have hlo := h.lw.lo
  have hA : w5.grownBy (wr.alloc o) (some gl) := grown_allocNew h.gr o
  have hz : w5.heap.size ≤ (wr.alloc o).heap.size := hA.size
  refine ⟨by rw [List.map_append]; exact o6, h.lw.grow (by omega) h22, ?_, fun ad had => ?_⟩
  · cases a with
    | none => have := (RS.nil_inv h.own.rs).1; omega
    | some ad =>
      rcases h.at_ ad rfl with h1 | h1
      · rw [Option.map_some, h1] at g6
        exact grown_trans hA g6
      · rw [Option.map_some] at g6
        exact grown_new hA g6 h1
  · rcases n6 ad had with h1 | h1
    · exact h.at_ ad h1
    · exact .inr (Nat.le_trans hz h1)
theorem LQ3.put {W w5 wr : World} {gl X i gb : Nat} {c n x e : Nat} {l : List Nat} (h : LQ3 W w5 wr gl X i (some ⟨gb, 0, none⟩) c n l) (hx : l[i]? = some x) (he : X / 256 ^ (16 + i) % 256 / 4 + X / 256 ^ (16 + i + 1) % 256 % 4 * 64 = e) :
    LQ3 W w5 (wr.setCell ⟨gb, i, none⟩ (IV (x + 5 * e))) gl X (i + 1) (some ⟨gb, 0, none⟩) c n (l.set i (x + 5 * e)) := by
  refine ⟨by rw [List.map_set]; exact h.own.setCell i _ rfl, h.lw.step hx he.symm, ?_, h.at_⟩
  rcases h.at_ _ rfl with h1 | h1
  · have h1 : gb = gl := h1
    subst h1; exact grown_set h.gr i _
  · exact grown_setNew (ad := ⟨gb, i, none⟩) h.gr h1 _
structure LOF (W w4 : World) (a : Option Addr) (c X : Nat) : Prop where
  own : OW w4 W.heap.size 3 1 a 17 c ((low17 X).map IV)
  bl : Below W.heap.size W.drew w4
def pJ (i : Nat) : List Nat := (List.range 40).map fun j => if j = 0 then 251 else if j < i then 255 else 0
theorem pJ_set (i : Nat) (h1 : 1 ≤ i) (h2 : i < 40) : (pJ i).set i 255 = pJ (i + 1) := by
  apply List.ext_getElem?
  intro j
  rcases Nat.lt_or_ge j 40 with h | h
  · by_cases e : j = i
    · subst e
      rw [List.getElem?_set_self (by simp [pJ]; exact h)]
      unfold pJ
      rw [List.getElem?_map, List.getElem?_range h]; simp; omega
    · rw [List.getElem?_set_ne (fun e2 => e e2.symm)]
      unfold pJ
      rw [List.getElem?_map, List.getElem?_map, List.getElem?_range h]
      simp only [Option.map_some, Option.some.injEq]
      by_cases h0 : j = 0
      · rw [if_pos h0, if_pos h0]
      · rw [if_neg h0, if_neg h0]
        by_cases h3 : j < i
        · rw [if_pos h3, if_pos (by omega)]
        · rw [if_neg h3, if_neg (by omega)]
  · rw [List.getElem?_eq_none (by simp [pJ]; exact h), List.getElem?_eq_none (by simp [pJ]; exact h)]
theorem digs_take (V n m : Nat) (h : m ≤ n) : (digs V n).take m = digs V m := by
  unfold digs; rw [← List.map_take, List.take_range, Nat.min_eq_left h]
theorem OW_empty' (w : World) (base : Nat) (e : TypeId) (z : Nat) (hb : base ≤ w.heap.size) (g : Nat) (hg : g = w.heap.size) : OW (w.alloc (.cells #[] e)) base e z (some ⟨g, 0, none⟩) 0 0 [] := by
  subst hg; exact OW_empty w base e z hb
theorem RS_one' (w : World) (e : TypeId) (v : Value) (h1 : v.oneCell' = true) (g : Nat) (hg : g = w.heap.size) : RS (w.alloc (.cells #[v] e)) 1 (some ⟨g, 0, none⟩) 1 1 [v] := by
  subst hg; exact RS_one w e v h1
theorem S_appendN {P : Program} {ops : Array Oper} {w : World} {o : Oper} {f : Act} {K : Act → World → Prop} {Q : Exit → Act → World → Prop} {E : Prop} {t e : TypeId} {zero : Value} {z bytes : Nat}
    (ty : STy P t e zero z bytes) (N : Nat) {base : Nat} {a : Option Addr} {n c : Nat} {vs : List Value} {b : Option Addr} {m d : Nat} {us : List Value} (hN : n + m = N) (hs : OW w base e z a n c vs)
    (hx : RS w z b m d us) (s x : Operand) (hg : o.guard = none)
    (hop : o.op = .call { callee := .builtin .append, args := #[s, x], argTypes := #[t, t] })
    (es : f.eval s = .slice a n c) (ex : f.eval x = .slice b m d) (hbytes : (n + m) * bytes ≤ 140737488355328) (h63 : n + m ≤ maxLen) (hbase : base ≤ w.heap.size)
    (h : ∀ a' c' w', OW w' base e z a' N c' (vs ++ us) → w.grownBy w' (a.map (·.block)) → K (f.put o.dst (.slice a' N c')) w') :
    if Region.wanted o (yielded ops f.tmps) = true then Oper.wp P o f w K Q else E := by
  subst hN
  exact S_append ty hs hx s x hg hop es ex hbytes h63 hbase h
set_option maxHeartbeats 8000000 in
theorem left_any (w : World) {a : Option Addr} {n c : Nat} {l : List Nat} (hx : IS w a n c l) (hle : ∀ x ∈ l, x ≤ 255 * 1099511627776) (hV : valD l < 1361129467683753853853498429727072845824 * 1361129467683753853853498429727072845824) :
    Calls Tryd.prog 96 #[.slice a n c] w fun e w' => ∃ a' c', e = .returned (.slice a' 17 c') ∧ OW w' w.heap.size 3 1 a' 17 c' ((digs (valD l % pP) 17).map IV) ∧ Below w.heap.size w w' := by
  obtain ⟨V, hVe⟩ : ∃ V, valD l = V := ⟨_, rfl⟩
  have hcar := rcarry_any w hx 40 (by omega) hle
  rw [hVe] at hcar hV ⊢
  have Hcar := Lib.hid hcar
  have HV := Lib.hid hV
  clear hcar hV hVe hle hx
  go_enter Tryd.func96, Tryd.ntmps96
  go_upto_region 2 with (go_at_call 97; refine Hcar.out.mono ?_; rintro e w1 ⟨rfl, o1, B1⟩)
  have z1 := B1.size
  go_wp2
  go_loopw [0, 15] (fun s0 s15 wr => ∃ (r g : Nat), r ≤ 4 ∧ s15 = .int .i64 (r : Int) ∧ s0 = .slice (some ⟨g, 0, none⟩) 40 40 ∧ OW wr w.heap.size 3 1 (some ⟨g, 0, none⟩) 40 40 ((digs (folds V r) 40).map IV) ∧ Below w.heap.size w wr) (fun _ s15 _ => 4 - (intOf s15).toNat)
  case atStart => exact ⟨0, _, by omega, rfl, rfl, o1, B1⟩
  case round =>
    obtain ⟨r, g, hr, rfl, rfl, ho, hb⟩ := hrel
    clear o1 B1 z1 Hcar
    by_cases hlt : r < 4
    · have hXl := folds_le V r HV.out
      obtain ⟨X, hX⟩ : ∃ X, folds V r = X := ⟨_, rfl⟩
      have HNX : folds V (r + 1) = fold5 X := by rw [folds, hX]
      rw [hX] at ho hXl
      have HNX := EN'.mk (congrArg (fun z => [z]) HNX)
      have HXl := Lib.hid hXl
      obtain ⟨x16, hx16⟩ : ∃ x16, X / 256 ^ 16 % 256 = x16 := ⟨_, rfl⟩
      obtain ⟨d, hd⟩ : ∃ d, x16 % 4 = d := ⟨_, rfl⟩
      have hdi : (x16 : Int).tmod 4 = (d : Int) := by rw [Int.tmod_eq_emod_of_nonneg (by omega)]; omega
      have HLO := EN'.mk (show low17 X = (digs X 40).take 16 ++ [d] by unfold low17; rw [hx16, hd])
      have hgW := (ho.base_le rfl).2
      have hgb := (ho.base_le rfl).1
      have q16 : wr.cell? ⟨g, 16, none⟩ = some (.int .i64 (x16 : Int)) := ho.cell 16 _ (iv_get (by rw [digs_get _ _ _ (by omega), hx16]))
      have HL16 := Lib.hid (show IS wr (some ⟨g, 0, none⟩) 16 40 ((digs X 40).take 16) by have := RS.head ho.rs 16 (by omega); rwa [Nat.mul_one, ← List.map_take] at this)
      have HO := Lib.hid ho
      have HB := Lib.hid hb
      have hB0 : Below wr.heap.size wr.drew wr.drew := Below.refl _ _
      clear hX hXl hx16 hd ho hb
      go_wp2
      go_upto_region 4 with (fail)
      generalize wr = W at *
      refine wp_region_held_drew (S := fun w' => w'.cell? ⟨g, 16, none⟩ = some (.int .i64 (x16 : Int))) (by kernel_rfl) q16 (fun hHeld => ?_)
      refine wpAnyH_take (i := 1) (v := .slice (some ⟨g, 0, none⟩) 40 40) rfl (by kernel_rfl) (by kernel_rfl) (by kernel_rfl) (fun _ _ _ h => h) (Or.inl ⟨by rfl, fun w h => by go_simp⟩) hHeld ?_
      try simp only [Act.put, List.getElem_toArray, List.getElem_cons_succ, List.getElem_cons_zero, List.setIfInBounds_toArray, List.set_cons_zero, List.set_cons_succ]
      refine wpAnyH_take (i := 2) (v := .slice (some ⟨g, 0, none⟩) 16 40) rfl (by kernel_rfl) (by kernel_rfl) (by kernel_rfl) (fun _ _ _ h => h) (Or.inl ⟨by rfl, fun w h => by go_simp⟩) hHeld ?_
      try simp only [Act.put, List.getElem_toArray, List.getElem_cons_succ, List.getElem_cons_zero, List.setIfInBounds_toArray, List.set_cons_zero, List.set_cons_succ]
      refine wpAnyH_take (i := 4) (v := .slice (some ⟨g, 0, none⟩) 40 40) rfl (by kernel_rfl) (by kernel_rfl) (by kernel_rfl) (fun _ _ _ h => h) (Or.inl ⟨by rfl, fun w h => by go_simp⟩) hHeld ?_
      try simp only [Act.put, List.getElem_toArray, List.getElem_cons_succ, List.getElem_cons_zero, List.setIfInBounds_toArray, List.set_cons_zero, List.set_cons_succ]
      refine wpAnyH_take (i := 5) (v := .pointer (some ⟨g, 16, none⟩)) rfl (by kernel_rfl) (by kernel_rfl) (by kernel_rfl) (fun _ _ _ h => h) (Or.inl ⟨by rfl, fun w h => by go_simp⟩) hHeld ?_
      try simp only [Act.put, List.getElem_toArray, List.getElem_cons_succ, List.getElem_cons_zero, List.setIfInBounds_toArray, List.set_cons_zero, List.set_cons_succ]
      refine wpAnyH_take (i := 6) (v := .int .i64 (x16 : Int)) rfl (by kernel_rfl) (by kernel_rfl) (by kernel_rfl) (fun _ _ _ h => h) (Or.inl ⟨by rfl, fun w h => by go_simp⟩) hHeld ?_
      try simp only [Act.put, List.getElem_toArray, List.getElem_cons_succ, List.getElem_cons_zero, List.setIfInBounds_toArray, List.set_cons_zero, List.set_cons_succ]
      refine wpAnyH_take (i := 7) (v := .int .i64 (d : Int)) rfl (by kernel_rfl) (by kernel_rfl) (by kernel_rfl) (fun _ _ _ h => h) (Or.inl ⟨by rfl, fun w h => by go_simp⟩) hHeld ?_
      try simp only [Act.put, List.getElem_toArray, List.getElem_cons_succ, List.getElem_cons_zero, List.setIfInBounds_toArray, List.set_cons_zero, List.set_cons_succ]
      refine (fun (hk : Hid (∀ (w4 : World) (gE gO : Nat) (a2 : Option Addr) (c2 : Nat) (a3 : Option Addr) (c3 : Nat), LOF W w4 a3 c3 X → (?P1 : World → Nat → Nat → Option Addr → Nat → Option Addr → Nat → Prop) w4 gE gO a2 c2 a3 c3)) => ?main1) (Lib.hid ?rest1)
      case main1 =>
          refine wpAnyH_ready (rs := [0, 8]) (by kernel_rfl) (by simp) (AllReadyH.cons rfl (fun K hK => ?o1) (AllReadyH.cons rfl (fun K hK => ?o2) AllReadyH.nil))
          case o1 =>
            go_simp
            have e1 := OW_empty' W.drew W.heap.size 3 1 hB0.size (W.heap.size) (by simp)
            have b1 := hB0.alloc hB0.size (.cells #[] 3)
            refine hK.out _ _ ((World.cell?_of_block (a := ⟨g, 16, none⟩) (b1.block g hgW)).trans q16) (fun hHeld => ?_)
            clear hK K
            try simp only [Act.put, List.getElem_toArray, List.getElem_cons_succ, List.getElem_cons_zero, List.setIfInBounds_toArray, List.set_cons_zero, List.set_cons_succ]
            refine wpAnyH_ready (rs := [3, 8]) (by kernel_rfl) (by simp) (AllReadyH.cons rfl (fun K hK => ?o11) (AllReadyH.cons rfl (fun K hK => ?o12) AllReadyH.nil))
            case o11 =>
              refine S_appendN tI 16 rfl e1 (RS.below (RS.drew HL16.out) b1 (Nat.le_refl _)) _ _ rfl rfl rfl rfl (by omega) (by unfold maxLen; omega) b1.size ?_
              intro y2 c2 v2 a2 g2
              have b2 := b1.grown g2 b1.size (row_le (fun ad ha => (e1.base_le ha).1) (Nat.le_refl _))
              refine hK.out _ _ ((World.cell?_of_block (a := ⟨g, 16, none⟩) (b2.block g hgW)).trans q16) (fun hHeld => ?_)
              clear hK K
              try simp only [Act.put, List.getElem_toArray, List.getElem_cons_succ, List.getElem_cons_zero, List.setIfInBounds_toArray, List.set_cons_zero, List.set_cons_succ]
              refine wpAnyH_ready (rs := [8]) (by kernel_rfl) (by simp) (AllReadyH.cons rfl (fun K hK => ?_) AllReadyH.nil)
              go_simp
              have o3 := RS_one' v2 3 (.int .i64 (d : Int)) rfl (v2.heap.size) (by simp)
              have b3 := b2.alloc b2.size (.cells #[.int .i64 (d : Int)] 3)
              have a3 := OW.alloc a2 (.cells #[.int .i64 (d : Int)] 3)
              refine hK.out _ _ ((World.cell?_of_block (a := ⟨g, 16, none⟩) (b3.block g hgW)).trans q16) (fun hHeld => ?_)
              clear hK K
              try simp only [Act.put, List.getElem_toArray, List.getElem_cons_succ, List.getElem_cons_zero, List.setIfInBounds_toArray, List.set_cons_zero, List.set_cons_succ]
              refine wpAnyH_ready (rs := [9]) (by kernel_rfl) (by simp) (AllReadyH.cons rfl (fun K hK => ?_) AllReadyH.nil)
              refine S_appendN tI 17 rfl a3 o3 _ _ rfl rfl rfl rfl (by omega) (by unfold maxLen; omega) b3.size ?_
              intro y4 c4 v4 a4 g4
              have b4 := b3.grown g4 b3.size (row_le (fun ad ha => (a3.base_le ha).1) (Nat.le_refl _))
              refine hK.out _ _ ((World.cell?_of_block (a := ⟨g, 16, none⟩) (b4.block g hgW)).trans q16) (fun hHeld => ?_)
              clear hK K
              try simp only [Act.put, List.getElem_toArray, List.getElem_cons_succ, List.getElem_cons_zero, List.setIfInBounds_toArray, List.set_cons_zero, List.set_cons_succ]
              refine wpAnyH_take (i := 10) (v := .slice y4 17 c4) rfl (by kernel_rfl) (by kernel_rfl) (by kernel_rfl) (fun _ _ _ h => h) (Or.inl ⟨by rfl, fun w h => by go_simp⟩) hHeld ?_
              try simp only [Act.put, List.getElem_toArray, List.getElem_cons_succ, List.getElem_cons_zero, List.setIfInBounds_toArray, List.set_cons_zero, List.set_cons_succ]
              refine wpAnyH_done (by kernel_rfl) ?_ _
              try simp only [Act.put, List.getElem_toArray, List.getElem_cons_succ, List.getElem_cons_zero]
              have hF : LOF W v4 y4 c4 X := ⟨by rw [HLO.h, List.map_append]; exact a4, b4⟩
              generalize W.heap.size = gE
              generalize v2.heap.size = gO
              exact hk.out v4 gE gO y2 c2 y4 c4 hF
            case o12 =>
              go_simp
              have o2 := RS_one' (W.drew.alloc (.cells #[] 3)) 3 (.int .i64 (d : Int)) rfl (W.heap.size + 1) (by simp)
              have b2 := b1.alloc b1.size (.cells #[.int .i64 (d : Int)] 3)
              have e2 := OW.alloc e1 (.cells #[.int .i64 (d : Int)] 3)
              refine hK.out _ _ ((World.cell?_of_block (a := ⟨g, 16, none⟩) (b2.block g hgW)).trans q16) (fun hHeld => ?_)
              clear hK K
              try simp only [Act.put, List.getElem_toArray, List.getElem_cons_succ, List.getElem_cons_zero, List.setIfInBounds_toArray, List.set_cons_zero, List.set_cons_succ]
              refine wpAnyH_ready (rs := [3]) (by kernel_rfl) (by simp) (AllReadyH.cons rfl (fun K hK => ?_) AllReadyH.nil)
              refine S_appendN tI 16 rfl e2 (RS.below (RS.drew HL16.out) b2 (Nat.le_refl _)) _ _ rfl rfl rfl rfl (by omega) (by unfold maxLen; omega) b2.size ?_
              intro y3 c3 v3 a3 g3
              have b3 := b2.grown g3 b2.size (row_le (fun ad ha => (e2.base_le ha).1) (Nat.le_refl _))
              have o3 := RS.grown o2 g3 (fun ad had => by cases had; simp)
              refine hK.out _ _ ((World.cell?_of_block (a := ⟨g, 16, none⟩) (b3.block g hgW)).trans q16) (fun hHeld => ?_)
              clear hK K
              try simp only [Act.put, List.getElem_toArray, List.getElem_cons_succ, List.getElem_cons_zero, List.setIfInBounds_toArray, List.set_cons_zero, List.set_cons_succ]
              refine wpAnyH_ready (rs := [9]) (by kernel_rfl) (by simp) (AllReadyH.cons rfl (fun K hK => ?_) AllReadyH.nil)
              refine S_appendN tI 17 rfl a3 o3 _ _ rfl rfl rfl rfl (by omega) (by unfold maxLen; omega) b3.size ?_
              intro y4 c4 v4 a4 g4
              have b4 := b3.grown g4 b3.size (row_le (fun ad ha => (a3.base_le ha).1) (Nat.le_refl _))
              refine hK.out _ _ ((World.cell?_of_block (a := ⟨g, 16, none⟩) (b4.block g hgW)).trans q16) (fun hHeld => ?_)
              clear hK K
              try simp only [Act.put, List.getElem_toArray, List.getElem_cons_succ, List.getElem_cons_zero, List.setIfInBounds_toArray, List.set_cons_zero, List.set_cons_succ]
              refine wpAnyH_take (i := 10) (v := .slice y4 17 c4) rfl (by kernel_rfl) (by kernel_rfl) (by kernel_rfl) (fun _ _ _ h => h) (Or.inl ⟨by rfl, fun w h => by go_simp⟩) hHeld ?_
              try simp only [Act.put, List.getElem_toArray, List.getElem_cons_succ, List.getElem_cons_zero, List.setIfInBounds_toArray, List.set_cons_zero, List.set_cons_succ]
              refine wpAnyH_done (by kernel_rfl) ?_ _
              try simp only [Act.put, List.getElem_toArray, List.getElem_cons_succ, List.getElem_cons_zero]
              have hF : LOF W v4 y4 c4 X := ⟨by rw [HLO.h, List.map_append]; exact a4, b4⟩
              exact hk.out v4 (W.heap.size) (W.heap.size + 1) y3 c3 y4 c4 hF
          case o2 =>
            go_simp
            have o1 := RS_one' W.drew 3 (.int .i64 (d : Int)) rfl (W.heap.size) (by simp)
            have b1 := hB0.alloc hB0.size (.cells #[.int .i64 (d : Int)] 3)
            refine hK.out _ _ ((World.cell?_of_block (a := ⟨g, 16, none⟩) (b1.block g hgW)).trans q16) (fun hHeld => ?_)
            clear hK K
            try simp only [Act.put, List.getElem_toArray, List.getElem_cons_succ, List.getElem_cons_zero, List.setIfInBounds_toArray, List.set_cons_zero, List.set_cons_succ]
            refine wpAnyH_ready (rs := [0]) (by kernel_rfl) (by simp) (AllReadyH.cons rfl (fun K hK => ?_) AllReadyH.nil)
            go_simp
            have e2 := OW_empty' (W.drew.alloc (.cells #[.int .i64 (d : Int)] 3)) W.heap.size 3 1 b1.size (W.heap.size + 1) (by simp)
            have b2 := b1.alloc b1.size (.cells #[] 3)
            have o2 := RS.alloc o1 (.cells #[] 3)
            refine hK.out _ _ ((World.cell?_of_block (a := ⟨g, 16, none⟩) (b2.block g hgW)).trans q16) (fun hHeld => ?_)
            clear hK K
            try simp only [Act.put, List.getElem_toArray, List.getElem_cons_succ, List.getElem_cons_zero, List.setIfInBounds_toArray, List.set_cons_zero, List.set_cons_succ]
            refine wpAnyH_ready (rs := [3]) (by kernel_rfl) (by simp) (AllReadyH.cons rfl (fun K hK => ?_) AllReadyH.nil)
            refine S_appendN tI 16 rfl e2 (RS.below (RS.drew HL16.out) b2 (Nat.le_refl _)) _ _ rfl rfl rfl rfl (by omega) (by unfold maxLen; omega) b2.size ?_
            intro y3 c3 v3 a3 g3
            have b3 := b2.grown g3 b2.size (row_le (fun ad ha => (e2.base_le ha).1) (Nat.le_refl _))
            have o3 := RS.grown o2 g3 (fun ad had => by cases had; simp)
            refine hK.out _ _ ((World.cell?_of_block (a := ⟨g, 16, none⟩) (b3.block g hgW)).trans q16) (fun hHeld => ?_)
            clear hK K
            try simp only [Act.put, List.getElem_toArray, List.getElem_cons_succ, List.getElem_cons_zero, List.setIfInBounds_toArray, List.set_cons_zero, List.set_cons_succ]
            refine wpAnyH_ready (rs := [9]) (by kernel_rfl) (by simp) (AllReadyH.cons rfl (fun K hK => ?_) AllReadyH.nil)
            refine S_appendN tI 17 rfl a3 o3 _ _ rfl rfl rfl rfl (by omega) (by unfold maxLen; omega) b3.size ?_
            intro y4 c4 v4 a4 g4
            have b4 := b3.grown g4 b3.size (row_le (fun ad ha => (a3.base_le ha).1) (Nat.le_refl _))
            refine hK.out _ _ ((World.cell?_of_block (a := ⟨g, 16, none⟩) (b4.block g hgW)).trans q16) (fun hHeld => ?_)
            clear hK K
            try simp only [Act.put, List.getElem_toArray, List.getElem_cons_succ, List.getElem_cons_zero, List.setIfInBounds_toArray, List.set_cons_zero, List.set_cons_succ]
            refine wpAnyH_take (i := 10) (v := .slice y4 17 c4) rfl (by kernel_rfl) (by kernel_rfl) (by kernel_rfl) (fun _ _ _ h => h) (Or.inl ⟨by rfl, fun w h => by go_simp⟩) hHeld ?_
            try simp only [Act.put, List.getElem_toArray, List.getElem_cons_succ, List.getElem_cons_zero, List.setIfInBounds_toArray, List.set_cons_zero, List.set_cons_succ]
            refine wpAnyH_done (by kernel_rfl) ?_ _
            try simp only [Act.put, List.getElem_toArray, List.getElem_cons_succ, List.getElem_cons_zero]
            have hF : LOF W v4 y4 c4 X := ⟨by rw [HLO.h, List.map_append]; exact a4, b4⟩
            exact hk.out v4 (W.heap.size + 1) (W.heap.size) y3 c3 y4 c4 hF
      case rest1 =>
        intro w4 gE gO a2 c2 a3 c3 hF
        clear q16 hHeld
        have b4 : Below W.heap.size W w4 := below_undrew hF.bl
        have z4 := b4.size
        have o4 := HO.out.below b4 (Nat.le_refl _)
        obtain ⟨gl, rfl, lgl1, lgl2⟩ : ∃ gl, a3 = some ⟨gl, 0, none⟩ ∧ W.heap.size ≤ gl ∧ gl < w4.heap.size := by
          rcases hF.own.shape with ⟨_, h, _⟩ | ⟨g, cur, h1, h2, h3, _⟩
          · omega
          · exact ⟨g, h1, h2, h3⟩
        have HLow := Lib.hid hF.own
        have HO4 := Lib.hid o4
        have HB4 := Lib.hid (HB.out.trans (b4.mono HB.out.size))
        clear hF b4 o4 HL16 HO HB hB0 hdi
        go_wp2
        go_loopw [4, 5] (fun s4 s5 wr => ∃ (i : Nat) (a : Option Addr) (c : Nat), i ≤ 23 ∧ s5 = .int .i64 ((16 + i : Nat) : Int) ∧ s4 = .slice a i c ∧ OW wr w4.heap.size 3 1 a i c ((highN X i).map IV) ∧ Below w4.heap.size w4 wr) (fun _ s5 _ => 39 - (intOf s5).toNat)
        case atStart => exact ⟨0, none, 0, by omega, rfl, rfl, OW_nil _ _ _ _, Below.refl _ _⟩
        case round =>
          obtain ⟨i, a, c, hi, rfl, rfl, hh, hb⟩ := hrel
          obtain ⟨m, hm⟩ : ∃ m, 16 + i = m := ⟨_, rfl⟩
          rw [hm]
          by_cases hlt2 : i < 23
          · have hD := HO4.out.below hb (Nat.le_refl _)
            have hsz := hb.size
            obtain ⟨y0, hy0⟩ : ∃ y0, X / 256 ^ (16 + i) % 256 = y0 := ⟨_, rfl⟩
            obtain ⟨y1, hy1⟩ : ∃ y1, X / 256 ^ (16 + i + 1) % 256 = y1 := ⟨_, rfl⟩
            obtain ⟨q0, hq0⟩ : ∃ q0, y0 / 4 = q0 := ⟨_, rfl⟩
            obtain ⟨r1, hr1⟩ : ∃ r1, y1 % 4 = r1 := ⟨_, rfl⟩
            have k1 : wr.cell? ⟨g, m, none⟩ = some (.int .i64 (y0 : Int)) := hD.cell m _ (iv_get (by rw [digs_get _ _ _ (by omega), ← hm, hy0]))
            have k2 : wr.cell? ⟨g, m + 1, none⟩ = some (.int .i64 (y1 : Int)) := hD.cell (m + 1) _ (iv_get (by rw [digs_get _ _ _ (by omega), ← hm, hy1]))
            have ht0 : (y0 : Int).tdiv 4 = (q0 : Int) := by rw [Int.tdiv_eq_ediv_of_nonneg (by omega)]; omega
            have ht1 : (y1 : Int).tmod 4 = (r1 : Int) := by rw [Int.tmod_eq_emod_of_nonneg (by omega)]; omega
            have hy0l : y0 < 256 := by omega
            have hnx : EN' (highN X (i + 1)) (highN X i ++ [q0 + r1 * 64]) := ⟨by
              unfold highN
              rw [List.range_succ, List.map_append, List.map_cons, List.map_nil, hy0, hy1, hq0, hr1]⟩
            have lgw : g < wr.heap.size := by omega
            obtain ⟨m1, hm1⟩ : ∃ m1, m + 1 = m1 := ⟨_, rfl⟩
            have hm1i : (m : Int) + 1 = (m1 : Int) := by omega
            rw [hm1] at k2
            have z1 : (m1 : Int) < 40 := by omega
            have z0 : (m : Int) < 40 := by omega
            have hw1 : IntKind.i64.wrap (m1 : Int) = (m1 : Int) := IntWalk.i64_in _ (by omega)
            have hq0l : q0 < 64 := by omega
            have hr1l : r1 < 4 := by omega
            obtain ⟨r64, hr64⟩ : ∃ r64, r1 * 64 = r64 := ⟨_, rfl⟩
            obtain ⟨e, he⟩ : ∃ e, q0 + r64 = e := ⟨_, rfl⟩
            rw [hr64, he] at hnx
            have hmul : (r1 : Int) * 64 = (r64 : Int) := by omega
            have hsum : (q0 : Int) + (r64 : Int) = (e : Int) := by omega
            have hwq : IntKind.i64.wrap (q0 : Int) = (q0 : Int) := IntWalk.i64_in _ (by omega)
            have hwr : IntKind.i64.wrap (r64 : Int) = (r64 : Int) := IntWalk.i64_in _ (by omega)
            have hwe : IntKind.i64.wrap (e : Int) = (e : Int) := IntWalk.i64_in _ (by omega)
            clear hr64 he
            have HH := Lib.hid hh
            have HBh := Lib.hid hb
            have Hm := Lib.hid hm
            have Hm1 := Lib.hid hm1
            have K1 := Lib.hid k1
            have K2 := Lib.hid k2
            have hlen := hh.rs.le
            clear hD hy0 hy1 hq0 hr1 hh hb hm hm1
            go_upto_region 9 with (fail)
            go_region_held3 (fun w' => w'.cell? ⟨g, m, none⟩ = some (.int .i64 (y0 : Int)) ∧ w'.cell? ⟨g, m1, none⟩ = some (.int .i64 (y1 : Int)))
              (first | go_keep | exact ⟨k1, k2⟩)
              (first
              | (refine S_append tI (OW.alloc HH.out _) (RS_one _ _ _ rfl) _ _ rfl (by rfl) (by rfl) (by rfl) (by omega) (by unfold maxLen; omega) (by simp; omega) ?_; intro a5 c5 w5 o5 g5; have B5 : Below w4.heap.size wr w5 := ((Below.refl _ wr).alloc hsz _).grown g5 (by simp; omega) (row_le (fun ad ha => (HH.out.base_le ha).1) (Nat.le_refl _)); have k1 := (World.cell?_of_block (a := ⟨g, m, none⟩) (B5.block g (by omega))).trans K1.out; have k2 := (World.cell?_of_block (a := ⟨g, m1, none⟩) (B5.block g (by omega))).trans K2.out)
              | (refine S_append tI (OW.drew (OW.alloc HH.out _)) (RS.drew (RS_one _ _ _ rfl)) _ _ rfl (by rfl) (by rfl) (by rfl) (by omega) (by unfold maxLen; omega) (by simp; omega) ?_; intro a5 c5 w5 o5 g5; have B5 : Below w4.heap.size wr w5 := ((Below.refl _ wr).alloc hsz _).drew.grown g5 (by simp; omega) (row_le (fun ad ha => (HH.out.base_le ha).1) (Nat.le_refl _)); have k1 := (World.cell?_of_block (a := ⟨g, m, none⟩) (B5.block g (by omega))).trans K1.out; have k2 := (World.cell?_of_block (a := ⟨g, m1, none⟩) (B5.block g (by omega))).trans K2.out))
            have hv : (highN X i).map IV ++ [.int .i64 (e : Int)] = (highN X (i + 1)).map IV := by
              rw [hnx.h, List.map_append]; rfl
            rw [hv] at o5
            have O5 := Lib.hid o5
            have B5' := Lib.hid (HBh.out.trans B5)
            clear o5 g5 B5 k1 k2 hv ht0 ht1 hw1 hm1i hmul hsum hwq hwr hwe
            go_wp2
            go_roundw
            case rel => exact ⟨i + 1, a5, c5, by omega, by have := Hm.out; have := Hm1.out; go_num, rfl, O5.out, B5'.out⟩
            case measure => have := Hm.out; have := Hm1.out; simp [intOf]; omega
          · obtain rfl : i = 23 := by omega
            obtain rfl : m = 39 := by omega
            have HH := Lib.hid hh
            have HBh := Lib.hid hb
            have z5 := hb.size
            clear hh hb hm
            rw [show ((39 : Nat) : Int) = 39 from rfl]
            obtain ⟨gh, rfl, lgh1, lgh2⟩ : ∃ gh, a = some ⟨gh, 0, none⟩ ∧ w4.heap.size ≤ gh ∧ gh < wr.heap.size := by
              rcases HH.out.shape with ⟨_, h, _⟩ | ⟨g, cur, h1, h2, h3, _⟩
              · omega
              · exact ⟨g, h1, h2, h3⟩
            have hq0 : LQ3 W wr wr gl X 0 (some ⟨gl, 0, none⟩) c3 17 (low17 X) := ⟨HLow.out.below HBh.out (Nat.le_refl _), LW_zero X, World.grownBy.refl wr _, fun ad ha => by cases ha; exact .inl rfl⟩
            have HD5 := Lib.hid (HO4.out.below HBh.out (Nat.le_refl _))
            have HB5 := Lib.hid (HB4.out.trans (HBh.out.mono HB4.out.size))
            generalize wr = w5 at *
            have zW : W.heap.size ≤ w5.heap.size := Nat.le_trans z4 z5
            have HQ0 := Lib.hid hq0
            clear hq0 HLow HO4 HB4
            go_wp2
            go_loopw [3, 52] (fun s3 s52 wr => ∃ (i : Nat) (a : Option Addr) (c n : Nat) (l' : List Nat), i ≤ 23 ∧ s52 = .int .i64 (i : Int) ∧ s3 = .slice a n c ∧ LQ3 W w5 wr gl X i a c n l') (fun _ s52 _ => 23 - (intOf s52).toNat)
            case atStart => exact ⟨0, _, _, _, _, by omega, rfl, rfl, HQ0.out⟩
            case round =>
              obtain ⟨i, a, c, n', l', hi, rfl, rfl, hq⟩ := hrel
              clear HQ0
              by_cases hlt3 : i < 23
              · obtain ⟨e, he⟩ : ∃ e, X / 256 ^ (16 + i) % 256 / 4 + X / 256 ^ (16 + i + 1) % 256 % 4 * 64 = e := ⟨_, rfl⟩
                have hel : e < 256 := by omega
                have qh : wr.cell? ⟨gh, i, none⟩ = some (.int .i64 (e : Int)) := (World.cell?_of_block (a := ⟨gh, i, none⟩) (hq.gr.block gh lgh2 (by simp; omega))).trans (HH.out.cell i _ (iv_get (show (highN X 23)[i]? = some e by rw [← he]; unfold highN; rw [List.getElem?_map, List.getElem?_range hlt3]; rfl)))
                have HE := Lib.hid he
                have HQ := Lib.hid hq
                clear he hq
                go_upto_region 13 with (fail)
                clear qh
                rw [show decide ((i : Int) < 23) = true from decide_eq_true (by omega)]
                go_loopw [3] (fun s3 wr => ∃ (a : Option Addr) (c n : Nat) (l' : List Nat), s3 = .slice a n c ∧ LQ3 W w5 wr gl X i a c n l') (fun s3 _ => 40 - lenV s3)
                case atStart => exact ⟨_, _, _, _, rfl, HQ.out⟩
                case round =>
                  obtain ⟨a, c, n', l', rfl, hq⟩ := hrel
                  have hln := IS.len hq.own.rs
                  have hlo := hq.lw.lo
                  have hhi := hq.lw.hi
                  have hzr := hq.gr.size
                  clear HQ
                  by_cases hle : n' ≤ i
                  · have HQ := Lib.hid hq
                    clear hq
                    go_wp2_with (at_builtin; refine L_append_at tI (OW.alloc HQ.out.own _) (RS_one _ _ _ rfl) _ _ rfl rfl rfl rfl (by omega) (by unfold maxLen; omega) (by simp; omega) ?_; intro a6 c6 w6 o6 g6 n6)
                    have HN := Lib.hid (HQ.out.app hle (by omega) o6 g6 n6)
                    clear o6 g6 n6
                    go_roundw
                    case rel => exact ⟨_, _, _, _, rfl, HN.out⟩
                    case measure => simp [lenV]; omega
                  · obtain ⟨x, ex⟩ : ∃ x, l'[i]? = some x := ⟨_, List.getElem?_eq_getElem (by omega)⟩
                    have hxl := hq.lw.le x (List.mem_of_getElem? ex)
                    obtain ⟨gb, rfl⟩ : ∃ gb, a = some ⟨gb, 0, none⟩ := by
                      rcases hq.own.shape with ⟨_, h, _⟩ | ⟨g, cur, h1, _⟩
                      · omega
                      · exact ⟨g, h1⟩
                    have q0 := hq.own.cell i _ (iv_get ex)
                    have f0 := hq.own.frozen i
                    have HN := Lib.hid (hq.put ex HE.out)
                    have hnc := hq.own.rs.le
                    have hv : IV (x + 5 * e) = .int .i64 ((x : Int) + 5 * (e : Int)) := by unfold IV; congr 1
                    rw [hv] at HN
                    clear hq ex hv
                    go_wp2
                    go_roundw
                    case rel => exact ⟨i + 1, _, _, _, _, by omega, by go_num, rfl, HN.out⟩
                    case measure => simp [intOf]; omega
              · obtain rfl : i = 23 := by omega
                rw [show ((23 : Nat) : Int) = 23 from rfl]
                have hle : ∀ x ∈ l', x ≤ 255 * 1099511627776 := fun x hx => by have := hq.lw.le x hx; omega
                have hcar := rcarry_any wr hq.own.rs 40 (by omega) hle
                rw [hq.lw.all HXl.out] at hcar
                have Hcar := Lib.hid hcar
                have HQ := Lib.hid hq
                clear hq hle hcar
                go_wp2_with (go_at_call 97; refine Hcar.out.mono ?_; rintro e w6 ⟨rfl, o6, B6⟩)
                have HN := Lib.hid (show OW w6 w.heap.size 3 1 (some ⟨wr.heap.size, 0, none⟩) 40 40 ((digs (folds V (r + 1)) 40).map IV) by
                  rw [List.cons.inj HNX.h |>.1]
                  exact o6.mono (Nat.le_trans HB5.out.size HQ.out.gr.size))
                have HB6 := Lib.hid (HB5.out.grown HQ.out.gr HB5.out.size (fun k hk => by cases hk; omega))
                have HB7 := Lib.hid (HB6.out.trans (B6.mono HB6.out.size))
                clear o6 B6
                go_roundw
                case rel => exact ⟨r + 1, _, by omega, by go_num, rfl, HN.out, HB7.out⟩
                case measure => simp [intOf]; omega
    · obtain rfl : r = 4 := by omega
      rw [show ((4 : Nat) : Int) = 4 from rfl]
      have hXl := folds_lt V HV.out
      have hlv := left_val HV.out
      obtain ⟨X, hX⟩ : ∃ X, folds V 4 = X := ⟨_, rfl⟩
      rw [hX] at ho hXl hlv
      have HXl := Lib.hid hXl
      have HLV := Lib.hid hlv
      have HO := Lib.hid ho
      have HB := Lib.hid hb
      have lg := (ho.base_le rfl).2
      have lgb := (ho.base_le rfl).1
      clear hX hXl hlv ho hb
      generalize wr = W at *
      go_upto_region 20 with (refine L_make tI W.heap.size 40 rfl rfl _ _ rfl rfl _ _ _ _ rfl rfl (by omega) (by omega) (by omega) (by unfold maxLen; omega) (Nat.le_refl _) ?_; intro w2 o2 g2)
      have b2 := below_none (Below.refl _ W) g2 (Nat.le_refl _)
      obtain ⟨gp, hgp⟩ : ∃ gp, W.heap.size = gp := ⟨_, rfl⟩
      have o2' : OW w2 gp 3 1 (some ⟨gp, 0, none⟩) 40 40 ((List.replicate 40 0).map IV) := by rw [List.map_replicate, ← hgp]; exact o2
      have q0 : w2.cell? ⟨gp, 0, none⟩ = some (.int .i64 0) := o2'.cell 0 _ rfl
      have f0 := o2'.frozen 0
      have o3 : OW (w2.setCell ⟨gp, 0, none⟩ (.int .i64 251)) gp 3 1 (some ⟨gp, 0, none⟩) 40 40 ((pJ 1).map IV) := by
        have := o2'.setCell 0 (IV 251) rfl
        rw [← List.map_set, show (List.replicate 40 0).set 0 251 = pJ 1 by decide] at this
        exact this
      have b3 : Below W.heap.size W (w2.setCell ⟨gp, 0, none⟩ (.int .i64 251)) := b2.grown (grownBy_setCell w2 ⟨gp, 0, none⟩ (.int .i64 251)) b2.size (fun k hk => by cases hk; exact Nat.le_of_eq hgp)
      rw [hgp]
      have O3 := Lib.hid o3
      have B3 := Lib.hid b3
      clear o2 g2 b2 o2' o3 b3
      go_upto_region 21 with (fail)
      clear q0 f0
      generalize (World.setCell _ _ _) = w3 at *
      go_wp2
      go_loopw [9] (fun s9 wr => ∃ i : Nat, 1 ≤ i ∧ i ≤ 16 ∧ s9 = .int .i64 (i : Int) ∧ OW wr gp 3 1 (some ⟨gp, 0, none⟩) 40 40 ((pJ i).map IV) ∧ Below W.heap.size W wr) (fun s9 _ => 16 - (intOf s9).toNat)
      case atStart => exact ⟨1, by omega, by omega, rfl, O3.out, B3.out⟩
      case round =>
        obtain ⟨i, h1i, hi, rfl, ho, hb⟩ := hrel
        clear O3 B3
        by_cases hlt : i < 16
        · obtain ⟨y, hy⟩ : ∃ y, (pJ i)[i]? = some y := ⟨_, List.getElem?_eq_getElem (by simp [pJ]; omega)⟩
          have q0 := ho.cell i _ (iv_get hy)
          have f0 := ho.frozen i
          have h2 := ho.setCell i (IV 255) rfl
          rw [← List.map_set, pJ_set i h1i (by omega)] at h2
          have hb2 := hb.grown (grownBy_setCell wr ⟨gp, i, none⟩ (IV 255)) hb.size (fun k hk => by cases hk; exact Nat.le_of_eq hgp)
          have H2 := Lib.hid (show OW (wr.setCell ⟨gp, i, none⟩ (.int .i64 255)) gp 3 1 (some ⟨gp, 0, none⟩) 40 40 ((pJ (i + 1)).map IV) from h2)
          have HB2 := Lib.hid (show Below W.heap.size W (wr.setCell ⟨gp, i, none⟩ (.int .i64 255)) from hb2)
          clear hy ho hb h2 hb2
          go_wp2
          go_roundw
          case rel => exact ⟨i + 1, by omega, by omega, by go_num, H2.out, HB2.out⟩
          case measure => simp [intOf]; omega
        · obtain rfl : i = 16 := by omega
          rw [show ((16 : Nat) : Int) = 16 from rfl]
          have q0 : wr.cell? ⟨gp, 16, none⟩ = some (.int .i64 0) := ho.cell 16 _ rfl
          have f0 := ho.frozen 16
          have h2 := ho.setCell 16 (IV 3) rfl
          rw [← List.map_set, show (pJ 16).set 16 3 = pD by decide] at h2
          have hb2 := hb.grown (grownBy_setCell wr ⟨gp, 16, none⟩ (IV 3)) hb.size (fun k hk => by cases hk; exact Nat.le_of_eq hgp)
          have H2 := Lib.hid (show OW (wr.setCell ⟨gp, 16, none⟩ (.int .i64 3)) gp 3 1 (some ⟨gp, 0, none⟩) 40 40 (pD.map IV) from h2)
          have HB2 := Lib.hid (show Below W.heap.size W (wr.setCell ⟨gp, 16, none⟩ (.int .i64 3)) from hb2)
          clear ho hb h2 hb2
          go_upto_region 26 with (fail)
          clear q0 f0
          generalize (World.setCell _ _ _) = w5 at *
          have hO5 := HO.out.below HB2.out (Nat.le_refl _)
          have hls := rless_any w5 hO5.rs H2.out.rs (by omega) (digs_lt _ _) (digs_lt _ _)
          have hle : lessS (digs X 40) pD = decide (X < pP) := by
            unfold lessS pD
            rw [valD_digs, valD_digs, Nat.mod_eq_of_lt (by have := HXl.out; omega), Nat.mod_eq_of_lt (by decide)]
          rw [hle] at hls
          have Hls := Lib.hid hls
          have HO5 := Lib.hid hO5
          clear hO5 hls hle HO
          by_cases hlp : X < pP
          · rw [decide_eq_true hlp] at Hls
            have hr := HLV.out
            rw [if_pos hlp] at hr
            have Hr := Lib.hid hr
            clear hr hlp HLV HXl
            go_wp2_with (first
              | (go_at_call 102; refine Hls.out.mono ?_; rintro e w6 ⟨rfl, B6⟩; have hO6 := HO5.out.below B6 (Nat.le_refl _))
              | (refine L_slice_h tI hO6.rs 17 _ _ rfl rfl _ _ rfl rfl rfl (by omega) ?_; intro hb7))
            have hO7 := hO6.head 17 (by omega)
            have HB6 := HB.out.trans (HB2.out.mono HB.out.size)
            have HB7 := HB6.trans (B6.mono HB6.size)
            go_ret
            refine ⟨_, _, rfl, ?_, HB7⟩
            rw [Hr.out, ← digs_take X 40 17 (by omega), List.map_take]; exact hO7
          · rw [decide_eq_false hlp] at Hls
            have hr := HLV.out
            rw [if_neg hlp] at hr
            have hsub := sub_all (l := digs X 40) (p := pD) (digs_lt _ _) (digs_lt _ _) (by rw [digs_len]; exact digs_len _ _) (by
              unfold pD
              rw [valD_digs, valD_digs, Nat.mod_eq_of_lt (a := pP) (by decide), Nat.mod_eq_of_lt (by have := HXl.out; omega)]; omega)
            rw [digs_len, valD_digs, show valD pD = pP by decide, Nat.mod_eq_of_lt (by have := HXl.out; omega), ← hr] at hsub
            have Hsub := EN'.mk hsub
            clear hr hsub hlp HLV HXl
            go_upto_region 28 with (go_at_call 102; refine Hls.out.mono ?_; rintro e w6 ⟨rfl, B6⟩)
            have hO6 := HO5.out.below B6 (Nat.le_refl _)
            have hP6 := H2.out.below B6 (Nat.le_refl _)
            have HB6 := HB.out.trans (HB2.out.mono HB.out.size)
            have HB7 := HB6.trans (B6.mono HB6.size)
            have z6 := B6.size
            have HO6 := Lib.hid hO6
            have HP6 := Lib.hid hP6
            have HB7 := Lib.hid HB7
            have lgp := hP6.base_le rfl
            clear hO6 hP6 B6 HB6 HO5 H2 HB2 Hls
            go_wp2
            go_loopw [10, 94] (fun s10 s94 wr => ∃ i : Nat, i ≤ 40 ∧ s94 = .int .i64 (i : Int) ∧ s10 = .int .i64 ((bK (digs X 40) pD i : Nat) : Int) ∧ OW wr w.heap.size 3 1 (some ⟨g, 0, none⟩) 40 40 ((subO (digs X 40) pD i).map IV) ∧ w6.grownBy wr (some g)) (fun _ s94 _ => 40 - (intOf s94).toNat)
            case atStart => exact ⟨0, by omega, rfl, rfl, by rw [subO_zero]; exact HO6.out, World.grownBy.refl w6 _⟩
            case round =>
              obtain ⟨i, hi, rfl, rfl, ho, hg⟩ := hrel
              clear HO6
              by_cases hlt : i < 40
              · obtain ⟨x, hx⟩ : ∃ x, X / 256 ^ i % 256 = x := ⟨_, rfl⟩
                have ex : (digs X 40)[i]? = some x := by rw [digs_get _ _ _ hlt, hx]
                obtain ⟨y, hy⟩ : ∃ y, pP / 256 ^ i % 256 = y := ⟨_, rfl⟩
                have ey : pD[i]? = some y := by unfold pD; rw [digs_get _ _ _ hlt, hy]
                have lx : x < 256 := by omega
                have ly : y < 256 := by omega
                have gx : (digs X 40).getD i 0 = x := by rw [List.getD_eq_getElem?_getD, ex]; rfl
                have gy : pD.getD i 0 = y := by rw [List.getD_eq_getElem?_getD, ey]; rfl
                have q1 := ho.cell i _ (iv_get (subO_get _ pD i _ ex))
                have f1 := ho.frozen i
                have q2 : wr.cell? ⟨gp, i, none⟩ = some (.int .i64 (y : Int)) := (HP6.out.grown hg (fun ad ha => by cases ha; simp; omega)).cell i _ (iv_get ey)
                have hset := subO_set (digs X 40) pD i (by rw [digs_len]; omega)
                have hbl := bK_le (digs X 40) pD i
                obtain ⟨bb, hbb⟩ : ∃ bb, bK (digs X 40) pD i = bb := ⟨_, rfl⟩
                have h2 := ho.setCell i (IV (((digs X 40).getD i 0 + 256 - pD.getD i 0 - bK (digs X 40) pD i) % 256)) rfl
                rw [← List.map_set, hset, gx, gy, hbb] at h2
                rw [hbb] at hbl ⊢
                clear hx hy ex ey hset ho
                by_cases hc : x < y + bb
                · have hv : IV ((x + 256 - y - bb) % 256) = .int .i64 ((x : Int) - (y : Int) - (bb : Int) + 256) := by unfold IV; congr 1; omega
                  rw [hv] at h2
                  have hnb : bK (digs X 40) pD (i + 1) = 1 := by rw [bK, gx, gy, hbb, if_pos hc]
                  have Hnb := Lib.hid hnb
                  have H2 := Lib.hid h2
                  clear hv hnb gx gy hbb h2
                  go_upto_region 31 with (fail)
                  go_quiet (fail)
                  have H3 : OW ((wr.drewN nq).setCell ⟨g, i, none⟩ (.int .i64 ((x : Int) - (y : Int) - (bb : Int) + 256))) w.heap.size 3 1 (some ⟨g, 0, none⟩) 40 40 ((subO (digs X 40) pD (i + 1)).map IV) := H2.out
                  have G3 : w6.grownBy ((wr.drewN nq).setCell ⟨g, i, none⟩ (.int .i64 ((x : Int) - (y : Int) - (bb : Int) + 256))) (some g) := grown_set (grown_drewN hg nq) i _
                  have q3 : (wr.drewN nq).cell? ⟨g, i, none⟩ = some (.int .i64 (x : Int)) := q1
                  have f3 : (wr.drewN nq).frozen? ⟨g, i, none⟩ = false := f1
                  have H3 := Lib.hid H3
                  have G3 := Lib.hid G3
                  clear q1 q2 f1 hg H2
                  generalize wr.drewN nq = W9 at *
                  go_wp2
                  go_roundw
                  case rel => exact ⟨i + 1, by omega, by go_num, by rw [Hnb.out]; rfl, H3.out, G3.out⟩
                  case measure => simp [intOf]; omega
                · have hv : IV ((x + 256 - y - bb) % 256) = .int .i64 ((x : Int) - (y : Int) - (bb : Int)) := by unfold IV; congr 1; omega
                  rw [hv] at h2
                  have hnb : bK (digs X 40) pD (i + 1) = 0 := by rw [bK, gx, gy, hbb, if_neg hc]
                  have Hnb := Lib.hid hnb
                  have H2 := Lib.hid h2
                  clear hv hnb gx gy hbb h2
                  go_upto_region 31 with (fail)
                  go_quiet (fail)
                  have H3 : OW ((wr.drewN nq).setCell ⟨g, i, none⟩ (.int .i64 ((x : Int) - (y : Int) - (bb : Int)))) w.heap.size 3 1 (some ⟨g, 0, none⟩) 40 40 ((subO (digs X 40) pD (i + 1)).map IV) := H2.out
                  have G3 : w6.grownBy ((wr.drewN nq).setCell ⟨g, i, none⟩ (.int .i64 ((x : Int) - (y : Int) - (bb : Int)))) (some g) := grown_set (grown_drewN hg nq) i _
                  have q3 : (wr.drewN nq).cell? ⟨g, i, none⟩ = some (.int .i64 (x : Int)) := q1
                  have f3 : (wr.drewN nq).frozen? ⟨g, i, none⟩ = false := f1
                  have H3 := Lib.hid H3
                  have G3 := Lib.hid G3
                  clear q1 q2 f1 hg H2
                  generalize wr.drewN nq = W9 at *
                  go_wp2
                  go_roundw
                  case rel => exact ⟨i + 1, by omega, by go_num, by rw [Hnb.out]; rfl, H3.out, G3.out⟩
                  case measure => simp [intOf]; omega
              · obtain rfl : i = 40 := by omega
                rw [show ((40 : Nat) : Int) = 40 from rfl]
                have hs := Hsub.h
                rw [hs] at ho
                have HO := Lib.hid ho
                have HB8 := Lib.hid (HB7.out.grown hg HB7.out.size (fun k hk => by cases hk; exact lgb))
                clear ho hg hs
                go_wp2_with (refine L_slice_h tI HO.out.rs 17 _ _ rfl rfl _ _ rfl rfl rfl (by omega) ?_; intro hb7)
                have hO7 := HO.out.head 17 (by omega)
                rw [Nat.mul_one, ← List.map_take, digs_take _ 40 17 (by omega)] at hO7
                go_ret
                exact ⟨_, _, rfl, hO7, HB8.out⟩
end Go.Proofs.YtlncnjcbgfeaoaaDoor
