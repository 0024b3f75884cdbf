/- Arrays of words; what a block of SHA-256 computes, step by step. -/
import Derived.Test.YtlncnjcbgfeaoaaDoorG2
import Derived.StillTailTactics
import Derived.Deep.DeepCutAuto
set_option maxRecDepth 100000
set_option linter.unusedVariables false
namespace Go.Proofs.YtlncnjcbgfeaoaaDoor
open Go.RowKit
def U (x : Nat) : Value := .int .u32 (x : Int)
/-- the block g is just the words vs -/
def AR (w : World) (g : Nat) (t : TypeId) (vs : List Nat) : Prop := w.heap[g]? = some (.cells (vs.map U).toArray t (0, 0))
section
variable {w w' : World} {g : Nat} {t : TypeId} {vs : List Nat}
theorem AR.lt (h : AR w g t vs) : g < w.heap.size := (Array.getElem?_eq_some_iff.1 h).1
theorem AR.cell (h : AR w g t vs) (i : Nat) (x : Nat) (hx : vs[i]? = some x) : w.cell? ⟨g, i, none⟩ = some (.int .u32 (x : Int)) := by
  unfold AR at h
  simp [World.cell?, h, hx, U]
theorem AR.fr (h : AR w g t vs) (i : Nat) : w.frozen? ⟨g, i, none⟩ = false := by
  unfold AR at h
  simp [World.frozen?, h]
theorem AR.set_ (h : AR w g t vs) (i : Nat) (x : Nat) : AR (w.setCell ⟨g, i, none⟩ (.int .u32 (x : Int))) g t (vs.set i x) := by
  unfold AR at h ⊢
  simp [World.setCell, Array.getElem?_modify, h, U]
theorem AR.grown {row : Option Nat} (h : AR w g t vs) (hg : w.grownBy w' row) (hb : some g ≠ row) : AR w' g t vs := by
  have := hg.block g h.lt hb
  unfold AR at h ⊢
  rw [this]; exact h
theorem AR.other (h : AR w g t vs) {ad : Addr} (hne : g ≠ ad.block) (v : Value) : AR (w.setCell ad v) g t vs :=
  h.grown (grownBy_setCell w ad v) (by simpa using hne)
theorem AR.drewN (h : AR w g t vs) (k : Nat) : AR (w.drewN k) g t vs := h
theorem AR.drew (h : AR w g t vs) : AR w.drew g t vs := h
theorem AR.new (w : World) (t : TypeId) (vs : List Nat) : AR (w.alloc (.cells (vs.map U).toArray t)) w.heap.size t vs := heap_alloc_new w _
theorem BS.drewN {a : Option Addr} {n c : Nat} {xs : List UInt8} (h : BS w a n c xs) (k : Nat) : BS (w.drewN k) a n c xs := h
end
theorem grown_drewN {w w1 : World} {row : Option Nat} (h : w.grownBy w1 row) (k : Nat) : w.grownBy (w1.drewN k) row := ⟨h.os, h.tape, h.output, h.size, h.block⟩
/-- the first j words, then zeros -/
def filled (p : List UInt8) (j : Nat) : List Nat := (words p).take j ++ List.replicate (64 - j) 0
theorem words_get (p : List UInt8) (j : Nat) (h : j < 16) : (words p)[j]? = some (be4 ((p.drop (4 * j)).take 4)) := by
  unfold words; rw [List.getElem?_map, List.getElem?_range h]; rfl
theorem words_len (p : List UInt8) : (words p).length = 16 := by simp [words]
theorem filled_len (p : List UInt8) (j : Nat) (h : j ≤ 16) : (filled p j).length = 64 := by
  unfold filled; rw [List.length_append, List.length_take, words_len, List.length_replicate]; omega
theorem filled_set (p : List UInt8) (j : Nat) (h : j < 16) : (filled p j).set j (be4 ((p.drop (4 * j)).take 4)) = filled p (j + 1) := by
  unfold filled
  have hl : ((words p).take j).length = j := by rw [List.length_take, words_len]; omega
  rw [List.set_append_right _ _ (by omega), hl, Nat.sub_self, show 64 - j = (64 - (j + 1)) + 1 by omega, List.replicate_succ, List.set_cons_zero]
  have e : (words p).take (j + 1) = (words p).take j ++ [be4 ((p.drop (4 * j)).take 4)] := by rw [List.take_add_one, words_get p j h]; rfl
  rw [e]; simp
theorem drop4 (p : List UInt8) (j : Nat) (h : 4 * j + 4 ≤ p.length) : ∃ x0 x1 x2 x3 r, p.drop (4 * j) = x0 :: x1 :: x2 :: x3 :: r := by
  have hl : 4 ≤ (p.drop (4 * j)).length := by rw [List.length_drop]; omega
  match hd : p.drop (4 * j), hl with
  | x0 :: x1 :: x2 :: x3 :: r, _ => exact ⟨x0, x1, x2, x3, r, rfl⟩
theorem iter_succ {α : Type} (f : α → α) (n : Nat) : ∀ x, iter f (n + 1) x = f (iter f n x) := by
  induction n with
  | zero => intro x; rfl
  | succ n ih => intro x; show iter f (n + 1) (f x) = _; rw [ih]; rfl
/-- the block's words, so many of the 48 further ones, and zeros -/
def sched (p : List UInt8) (n : Nat) : List Nat := iter moreW n (words p)
theorem sched_len (p : List UInt8) (n : Nat) : (sched p n).length = 16 + n := by
  unfold sched
  induction n with
  | zero => exact words_len p
  | succ n ih =>
    have e : ∀ w, (moreW w).length = w.length + 1 := by intro w; simp [moreW]
    rw [iter_succ, e, ih]; omega
def grownW (p : List UInt8) (j : Nat) : List Nat := sched p (j - 16) ++ List.replicate (64 - j) 0
theorem grownW_start (p : List UInt8) : filled p 16 = grownW p 16 := by
  unfold filled grownW sched
  rw [List.take_of_length_le (by rw [words_len]; omega)]; rfl
theorem grownW_end (p : List UInt8) : grownW p 64 = schedS p := by unfold grownW schedS sched; simp
theorem grownW_len (p : List UInt8) (j : Nat) (h : 16 ≤ j) (h2 : j ≤ 64) : (grownW p j).length = 64 := by
  unfold grownW; rw [List.length_append, sched_len, List.length_replicate]; omega
theorem grownW_get (p : List UInt8) (j i : Nat) (h : 16 ≤ j) (h2 : i < j) : (grownW p j)[i]? = some ((sched p (j - 16)).getD i 0) := by
  unfold grownW
  have hl := sched_len p (j - 16)
  rw [List.getElem?_append_left (by omega), List.getD_eq_getElem?_getD, List.getElem?_eq_getElem (by omega)]; rfl
theorem grownW_set (p : List UInt8) (j : Nat) (h : 16 ≤ j) (h2 : j < 64) :
    (grownW p j).set j (((sched p (j - 16)).getD (j - 16) 0 + sg0 ((sched p (j - 16)).getD (j - 15) 0) + (sched p (j - 16)).getD (j - 7) 0 + sg1 ((sched p (j - 16)).getD (j - 2) 0)) % 4294967296) = grownW p (j + 1) := by
  have hl := sched_len p (j - 16)
  unfold grownW
  rw [List.set_append_right _ _ (by omega), hl, show j - (16 + (j - 16)) = 0 by omega, show 64 - j = (64 - (j + 1)) + 1 by omega, List.replicate_succ, List.set_cons_zero]
  have e : sched p (j + 1 - 16) = sched p (j - 16) ++ [((sched p (j - 16)).getD (j - 16) 0 + sg0 ((sched p (j - 16)).getD (j - 15) 0) + (sched p (j - 16)).getD (j - 7) 0 + sg1 ((sched p (j - 16)).getD (j - 2) 0)) % 4294967296] := by
    rw [show j + 1 - 16 = (j - 16) + 1 by omega]
    unfold sched
    rw [iter_succ]
    show moreW (sched p (j - 16)) = _
    unfold moreW
    rw [hl, show 16 + (j - 16) - 16 = j - 16 by omega, show 16 + (j - 16) - 15 = j - 15 by omega, show 16 + (j - 16) - 7 = j - 7 by omega, show 16 + (j - 16) - 2 = j - 2 by omega]
    rfl
  rw [e]; simp
theorem be4_lt (x0 x1 x2 x3 : UInt8) : be4 [x0, x1, x2, x3] < 4294967296 := by
  have := x0.toNat_lt; have := x1.toNat_lt; have := x2.toNat_lt; have := x3.toNat_lt
  simp [be4]; omega
theorem words_lt (p : List UInt8) : ∀ x ∈ words p, x < 4294967296 := by
  intro x hx
  obtain ⟨i, _, rfl⟩ := List.mem_map.1 hx
  have h4 : ((p.drop (4 * i)).take 4).length ≤ 4 := by rw [List.length_take]; omega
  generalize (p.drop (4 * i)).take 4 = l at h4
  match l, h4 with
  | [], _ => decide
  | [a], _ => have := a.toNat_lt; simp [be4]; omega
  | [a, b], _ => have := a.toNat_lt; have := b.toNat_lt; simp [be4]; omega
  | [a, b, c], _ => have := a.toNat_lt; have := b.toNat_lt; have := c.toNat_lt; simp [be4]; omega
  | [a, b, c, d], _ => exact be4_lt a b c d
theorem sched_lt (p : List UInt8) (n : Nat) : ∀ x ∈ sched p n, x < 4294967296 := by
  unfold sched
  induction n with
  | zero => exact words_lt p
  | succ n ih =>
    rw [iter_succ]; unfold moreW
    intro x hx
    rcases List.mem_append.1 hx with h | h
    · exact ih x h
    · rw [List.mem_singleton.1 h]; exact Nat.mod_lt _ (by decide)
theorem sched_getD_lt (p : List UInt8) (n i : Nat) : (sched p n).getD i 0 < 4294967296 := by
  rw [List.getD_eq_getElem?_getD]
  cases h : (sched p n)[i]? with
  | none => decide
  | some x => exact sched_lt p n x (List.mem_of_getElem? h)
theorem xor3 (a b c : Nat) (ha : a < 4294967296) (hb : b < 4294967296) (hc : c < 4294967296) : bits .xor .u32 (bits .xor .u32 (a : Int) (b : Int)) (c : Int) = ((a ^^^ b ^^^ c : Nat) : Int) := by
  rw [u32_xor_nat _ _ ha hb, u32_xor_nat _ _ (Nat.xor_lt_two_pow (n := 32) ha hb) hc]
theorem sg0_int (x : Nat) (hx : x < 4294967296) : bits .xor .u32 (bits .xor .u32 ((rotr x 7 : Nat) : Int) ((rotr x 18 : Nat) : Int)) ((x : Int) / 8) = ((sg0 x : Nat) : Int) := by
  rw [show ((x : Int) / 8) = ((x / 8 : Nat) : Int) by omega, xor3 _ _ _ (rotr_lt _ _ hx) (rotr_lt _ _ hx) (by omega)]
  unfold sg0; rw [Nat.shiftRight_eq_div_pow]
theorem sg1_int (x : Nat) (hx : x < 4294967296) : bits .xor .u32 (bits .xor .u32 ((rotr x 17 : Nat) : Int) ((rotr x 19 : Nat) : Int)) ((x : Int) / 1024) = ((sg1 x : Nat) : Int) := by
  rw [show ((x : Int) / 1024) = ((x / 1024 : Nat) : Int) by omega, xor3 _ _ _ (rotr_lt _ _ hx) (rotr_lt _ _ hx) (by omega)]
  unfold sg1; rw [Nat.shiftRight_eq_div_pow]
theorem sg0_lt (x : Nat) (hx : x < 4294967296) : sg0 x < 4294967296 := by
  unfold sg0
  exact Nat.xor_lt_two_pow (n := 32) (Nat.xor_lt_two_pow (rotr_lt _ _ hx) (rotr_lt _ _ hx)) (by rw [Nat.shiftRight_eq_div_pow]; omega)
theorem sg1_lt (x : Nat) (hx : x < 4294967296) : sg1 x < 4294967296 := by
  unfold sg1
  exact Nat.xor_lt_two_pow (n := 32) (Nat.xor_lt_two_pow (rotr_lt _ _ hx) (rotr_lt _ _ hx)) (by rw [Nat.shiftRight_eq_div_pow]; omega)
theorem kS_len : kS.length = 64 := by decide +kernel
theorem schedS_len (p : List UInt8) : (schedS p).length = 64 := sched_len p 48
/-- the state behind so many rounds -/
def RV (p : List UInt8) (ss : List Nat) (j : Nat) : List Nat := roundsS ((kS.zip (schedS p)).take j) ss
structure VR (p : List UInt8) (ss : List Nat) (W3 wr : World) (g9 : Nat) (j : Nat) (vs : List Nat) : Prop where
  hv : RV p ss j = vs
  lt : ∀ x ∈ vs, x < 4294967296
  len : vs.length = 8
  ar : AR wr g9 129 vs
  gr : W3.grownBy wr (some g9)
theorem eight {vs : List Nat} (h : vs.length = 8) : ∃ a b c d e f g i, vs = [a, b, c, d, e, f, g, i] := by
  match vs, h with
  | [a, b, c, d, e, f, g, i], _ => exact ⟨a, b, c, d, e, f, g, i, rfl⟩
theorem u32_not (x : Nat) (hx : x < 4294967296) : (4294967295 - x) < 4294967296 := by omega
theorem RV_zero (p : List UInt8) (ss : List Nat) : RV p ss 0 = ss := by unfold RV; simp [roundsS]
theorem roundsS_snoc (l : List (Nat × Nat)) (k w : Nat) : ∀ v, roundsS (l ++ [(k, w)]) v = roundS k w (roundsS l v) := by
  induction l with
  | nil => intro v; rfl
  | cons x l ih => obtain ⟨a, b⟩ := x; intro v; exact ih _
theorem RV_succ (p : List UInt8) (ss : List Nat) (j k w : Nat) (hk : kS[j]? = some k) (hw : (schedS p)[j]? = some w) : RV p ss (j + 1) = roundS k w (RV p ss j) := by
  unfold RV
  have h : (kS.zip (schedS p))[j]? = some (k, w) := by rw [List.getElem?_zip_eq_some]; exact ⟨hk, hw⟩
  rw [List.take_add_one, h]
  exact roundsS_snoc _ _ _ _
theorem RV_all (p : List UInt8) (ss : List Nat) : RV p ss 64 = roundsS (kS.zip (schedS p)) ss := by
  unfold RV
  rw [List.take_of_length_le (by rw [List.length_zip, kS_len, schedS_len]; omega)]
/-- the first j words with those of v added -/
def mixW (ss vs : List Nat) (j : Nat) : List Nat := ((ss.zip vs).map fun x => (x.1 + x.2) % 4294967296).take j ++ ss.drop j
theorem mixW_zero (ss vs : List Nat) : mixW ss vs 0 = ss := by simp [mixW]
theorem mixW_get (ss vs : List Nat) (j : Nat) (h : ss.length = vs.length) (hj : j ≤ ss.length) : (mixW ss vs j)[j]? = ss[j]? := by
  unfold mixW
  have hl : (((ss.zip vs).map fun x => (x.1 + x.2) % 4294967296).take j).length = j := by
    rw [List.length_take, List.length_map, List.length_zip]; omega
  rw [List.getElem?_append_right (by omega), hl, Nat.sub_self, List.getElem?_drop]; rfl
theorem mixW_set (ss vs : List Nat) (j a b : Nat) (h : ss.length = vs.length) (ha : ss[j]? = some a) (hb : vs[j]? = some b) : (mixW ss vs j).set j ((a + b) % 4294967296) = mixW ss vs (j + 1) := by
  unfold mixW
  have hj : j < ss.length := (List.getElem?_eq_some_iff.1 ha).1
  have hl : (((ss.zip vs).map fun x => (x.1 + x.2) % 4294967296).take j).length = j := by
    rw [List.length_take, List.length_map, List.length_zip]; omega
  have hz : (ss.zip vs)[j]? = some (a, b) := by rw [List.getElem?_zip_eq_some]; exact ⟨ha, hb⟩
  rw [List.set_append_right _ _ (by omega), hl, Nat.sub_self, List.take_add_one, List.getElem?_map, hz]
  have hd : ss.drop j = a :: ss.drop (j + 1) := by
    obtain ⟨h1, h2⟩ := List.getElem?_eq_some_iff.1 ha
    rw [List.drop_eq_getElem_cons h1, h2]
  rw [hd]; simp
theorem mixW_all (ss vs : List Nat) (n : Nat) (h : ss.length = n) (h2 : vs.length = n) : mixW ss vs n = (ss.zip vs).map fun x => (x.1 + x.2) % 4294967296 := by
  unfold mixW
  rw [List.take_of_length_le (by rw [List.length_map, List.length_zip]; omega), List.drop_eq_nil_of_le (by omega), List.append_nil]
theorem mixW_len (ss vs : List Nat) (j : Nat) (h : ss.length = vs.length) : (mixW ss vs j).length = ss.length := by
  unfold mixW
  rw [List.length_append, List.length_take, List.length_map, List.length_zip, List.length_drop]; omega
theorem Sg1_int (x : Nat) (hx : x < 4294967296) : bits .xor .u32 (bits .xor .u32 ((rotr x 6 : Nat) : Int) ((rotr x 11 : Nat) : Int)) ((rotr x 25 : Nat) : Int) = ((Sg1 x : Nat) : Int) :=
  xor3 _ _ _ (rotr_lt _ _ hx) (rotr_lt _ _ hx) (rotr_lt _ _ hx)
theorem Sg0_int (x : Nat) (hx : x < 4294967296) : bits .xor .u32 (bits .xor .u32 ((rotr x 2 : Nat) : Int) ((rotr x 13 : Nat) : Int)) ((rotr x 22 : Nat) : Int) = ((Sg0 x : Nat) : Int) :=
  xor3 _ _ _ (rotr_lt _ _ hx) (rotr_lt _ _ hx) (rotr_lt _ _ hx)
theorem Sg1_lt (x : Nat) (hx : x < 4294967296) : Sg1 x < 4294967296 := Nat.xor_lt_two_pow (n := 32) (Nat.xor_lt_two_pow (rotr_lt _ _ hx) (rotr_lt _ _ hx)) (rotr_lt _ _ hx)
theorem Sg0_lt (x : Nat) (hx : x < 4294967296) : Sg0 x < 4294967296 := Nat.xor_lt_two_pow (n := 32) (Nat.xor_lt_two_pow (rotr_lt _ _ hx) (rotr_lt _ _ hx)) (rotr_lt _ _ hx)
theorem and_lt32 (a b : Nat) (ha : a < 4294967296) : a &&& b < 4294967296 := Nat.lt_of_le_of_lt Nat.and_le_left ha
theorem maj_int (a b c : Nat) (ha : a < 4294967296) (hb : b < 4294967296) (hc : c < 4294967296) : bits .xor .u32 (bits .xor .u32 (bits .and .u32 (a : Int) (b : Int)) (bits .and .u32 (a : Int) (c : Int))) (bits .and .u32 (b : Int) (c : Int)) = ((majS a b c : Nat) : Int) := by
  rw [u32_and_nat _ _ ha hb, u32_and_nat _ _ ha hc, u32_and_nat _ _ hb hc]
  exact xor3 _ _ _ (and_lt32 _ _ ha) (and_lt32 _ _ ha) (and_lt32 _ _ hb)
theorem maj_lt (a b c : Nat) (ha : a < 4294967296) (hb : b < 4294967296) (hc : c < 4294967296) : majS a b c < 4294967296 :=
  Nat.xor_lt_two_pow (n := 32) (Nat.xor_lt_two_pow (and_lt32 _ _ ha) (and_lt32 _ _ ha)) (and_lt32 _ _ hb)
theorem ch_lt (a b c : Nat) (ha : a < 4294967296) (hb : b < 4294967296) (hc : c < 4294967296) : chS a b c < 4294967296 :=
  Nat.xor_lt_two_pow (n := 32) (and_lt32 _ _ ha) (and_lt32 _ _ (by omega))
theorem ch_int (a b c : Nat) (ha : a < 4294967296) (hb : b < 4294967296) (hc : c < 4294967296) : bits .xor .u32 (bits .and .u32 (a : Int) (b : Int)) (bits .and .u32 (4294967295 - (a : Int)) (c : Int)) = ((chS a b c : Nat) : Int) := by
  rw [show (4294967295 - (a : Int)) = ((4294967295 - a : Nat) : Int) by omega, u32_and_nat _ _ ha hb, u32_and_nat _ _ (by omega) hc, u32_xor_nat _ _ (and_lt32 _ _ ha) (and_lt32 _ _ (by omega))]
  rfl
theorem not32 (a : Nat) (ha : a < 4294967296) : 4294967295 ^^^ a = 4294967295 - a := by
  apply Nat.eq_of_testBit_eq
  intro i
  rw [Nat.testBit_xor, show 4294967295 - a = 2 ^ 32 - (a + 1) by omega, Nat.testBit_two_pow_sub_succ (x := a) (n := 32) (by omega), show 4294967295 = 2 ^ 32 - 1 by rfl, Nat.testBit_two_pow_sub_one]
  by_cases hi : i < 32
  · simp [hi]
  · have : a.testBit i = false := Nat.testBit_lt_two_pow (Nat.lt_of_lt_of_le ha (by have h := Nat.pow_le_pow_right (show 0 < 2 by omega) (show 32 ≤ i by omega); exact h))
    simp [hi, this]
theorem ch_int2 (a b c : Nat) (ha : a < 4294967296) (hb : b < 4294967296) (hc : c < 4294967296) : bits .xor .u32 (bits .and .u32 (a : Int) (b : Int)) (bits .and .u32 (bits .xor .u32 (if IntKind.u32.signed = true then -1 else IntKind.u32.max) (a : Int)) (c : Int)) = ((chS a b c : Nat) : Int) := by
  rw [if_neg (by decide), show IntKind.u32.max = ((4294967295 : Nat) : Int) from rfl, u32_xor_nat _ _ (by omega) ha, not32 a ha, show ((4294967295 - a : Nat) : Int) = 4294967295 - (a : Int) by omega]
  exact ch_int a b c ha hb hc
theorem grown_new {w w1 w2 : World} {row : Option Nat} {g : Nat} (h1 : w.grownBy w1 row) (h2 : w1.grownBy w2 (some g)) (hg : w.heap.size ≤ g) : w.grownBy w2 row :=
  ⟨h2.os.trans h1.os, h2.tape.trans h1.tape, h2.output.trans h1.output, Nat.le_trans h1.size h2.size, fun k hk hne => (h2.block k (Nat.lt_of_lt_of_le hk h1.size) (by simp; omega)).trans (h1.block k hk hne)⟩
theorem grown_weak {w w1 : World} {row : Option Nat} (h : w.grownBy w1 none) : w.grownBy w1 row := ⟨h.os, h.tape, h.output, h.size, fun k hk _ => h.block k hk (by simp)⟩
theorem grown_set {w w1 : World} {g : Nat} (h : w.grownBy w1 (some g)) (i : Nat) (v : Value) : w.grownBy (w1.setCell ⟨g, i, none⟩ v) (some g) := grown_trans h (grownBy_setCell w1 ⟨g, i, none⟩ v)
theorem blockS_eq (ss : List Nat) (p : List UInt8) (vs : List Nat) (h : RV p ss 64 = vs) : blockS ss p = (ss.zip vs).map fun x => (x.1 + x.2) % 4294967296 := by
  rw [← h, RV_all]; rfl
end Go.Proofs.YtlncnjcbgfeaoaaDoor
