/- Numbers as digits to the base 256: plain laws of the reference's long numbers. -/
import Derived.Test.YtlncnjcbgfeaoaaD1
set_option maxRecDepth 100000
set_option linter.unusedVariables false
namespace Go.Proofs.Ytlncnjcbgfeaoaa
def valD : List Nat → Nat
  | [] => 0
  | x :: xs => x + 256 * valD xs
def digs (V n : Nat) : List Nat := (List.range n).map fun j => V / 256 ^ j % 256
theorem digs_len (V n : Nat) : (digs V n).length = n := by simp [digs]
theorem digs_get (V n j : Nat) (h : j < n) : (digs V n)[j]? = some (V / 256 ^ j % 256) := by
  unfold digs; rw [List.getElem?_map, List.getElem?_range h]; rfl
theorem digs_succ (V n : Nat) : digs V (n + 1) = V % 256 :: digs (V / 256) n := by
  unfold digs
  rw [List.range_succ_eq_map, List.map_cons, List.map_map]
  simp only [Nat.pow_zero, Nat.div_one, List.cons.injEq, true_and]
  apply List.map_congr_left
  intro j _
  simp only [Function.comp, Nat.pow_succ, Nat.succ_eq_add_one]
  rw [Nat.mul_comm, ← Nat.div_div_eq_div_mul]
theorem valD_digs (n : Nat) : ∀ V : Nat, valD (digs V n) = V % 256 ^ n := by
  induction n with
  | zero => intro V; rw [Nat.pow_zero, Nat.mod_one]; rfl
  | succ n ih =>
    intro V
    rw [digs_succ, valD, ih, Nat.pow_succ, Nat.mul_comm (256 ^ n) 256, Nat.mod_mul]
theorem digs_lt (V n : Nat) : ∀ x ∈ digs V n, x < 256 := by
  intro x hx
  obtain ⟨j, _, rfl⟩ := List.mem_map.1 hx
  exact Nat.mod_lt _ (by decide)
theorem valD_append (xs ys : List Nat) : valD (xs ++ ys) = valD xs + 256 ^ xs.length * valD ys := by
  induction xs with
  | nil => simp [valD]
  | cons x xs ih =>
    rw [List.cons_append, valD, valD, ih, List.length_cons, Nat.pow_succ, Nat.mul_add, ← Nat.add_assoc, Nat.mul_comm (256 ^ xs.length) 256, Nat.mul_assoc]
theorem valD_zeros (n : Nat) : valD (List.replicate n 0) = 0 := by
  induction n with
  | zero => rfl
  | succ n ih => rw [List.replicate_succ, valD, ih]
theorem valD_lt {xs : List Nat} (h : ∀ x ∈ xs, x < 256) : valD xs < 256 ^ xs.length := by
  induction xs with
  | nil => exact Nat.one_pos
  | cons x xs ih =>
    have h1 := h x (by simp)
    have h2 := ih fun y hy => h y (by simp [hy])
    rw [valD, List.length_cons, Nat.pow_succ]; omega
theorem digs_valD {xs : List Nat} (h : ∀ x ∈ xs, x < 256) : digs (valD xs) xs.length = xs := by
  induction xs with
  | nil => rfl
  | cons x xs ih =>
    have h1 := h x (by simp)
    have h2 := ih fun y hy => h y (by simp [hy])
    rw [List.length_cons, digs_succ, valD]
    congr 1
    · omega
    · rw [show (x + 256 * valD xs) / 256 = valD xs by omega]; exact h2
/-- a digit that grows -/
theorem valD_set : ∀ (l : List Nat) (j a x : Nat), l[j]? = some a → valD (l.set j (a + x)) = valD l + 256 ^ j * x := by
  intro l
  induction l with
  | nil => intro j a x h; simp at h
  | cons y l ih =>
    intro j a x h
    cases j with
    | zero =>
      simp at h; subst h
      simp [valD]; omega
    | succ j =>
      rw [List.getElem?_cons_succ] at h
      rw [List.set_cons_succ, valD, valD, ih j a x h, Nat.pow_succ, Nat.mul_add, Nat.mul_comm (256 ^ j) 256, Nat.mul_assoc]; omega
theorem valD_map (xs : List UInt8) : valD (xs.map (·.toNat)) = numL xs := by
  induction xs with
  | nil => rfl
  | cons x xs ih => rw [List.map_cons, valD, numL, ih]
theorem valD_take_succ (l : List Nat) (i x : Nat) (h : l[i]? = some x) : valD (l.take (i + 1)) = valD (l.take i) + 256 ^ i * x := by
  have hi : i < l.length := (List.getElem?_eq_some_iff.1 h).1
  rw [List.take_add_one, h, valD_append, List.length_take, Nat.min_eq_left (by omega)]
  simp [valD]
/-- what is carried into a digit; the digits -/
def cK (l : List Nat) : Nat → Nat
  | 0 => 0
  | i + 1 => (cK l i + l.getD i 0) / 256
def carO (l : List Nat) (n i : Nat) : List Nat := (List.range n).map fun j => if j < i then (cK l j + l.getD j 0) % 256 else 0
theorem valD_drop (l : List Nat) (j : Nat) : valD (l.drop j) = l.getD j 0 + 256 * valD (l.drop (j + 1)) := by
  rcases Nat.lt_or_ge j l.length with h | h
  · rw [List.drop_eq_getElem_cons h, valD, List.getD_eq_getElem?_getD, List.getElem?_eq_getElem h]; rfl
  · rw [List.drop_of_length_le h, List.drop_of_length_le (by omega), List.getD_eq_getElem?_getD, List.getElem?_eq_none h]; rfl
theorem cK_val (l : List Nat) (j : Nat) : valD l / 256 ^ j = cK l j + valD (l.drop j) := by
  induction j with
  | zero => simp [cK]
  | succ j ih =>
    rw [Nat.pow_succ, ← Nat.div_div_eq_div_mul, ih, valD_drop, cK]; omega
theorem cK_dig (l : List Nat) (j : Nat) : (cK l j + l.getD j 0) % 256 = valD l / 256 ^ j % 256 := by
  rw [cK_val, valD_drop]; omega
theorem carO_len (l : List Nat) (n i : Nat) : (carO l n i).length = n := by simp [carO]
theorem carO_zero (l : List Nat) (n : Nat) : carO l n 0 = List.replicate n 0 := by
  apply List.ext_getElem?
  intro j
  rcases Nat.lt_or_ge j n with h | h
  · unfold carO; rw [List.getElem?_map, List.getElem?_range h, List.getElem?_replicate, if_pos h]; simp
  · rw [List.getElem?_eq_none (by rw [carO_len]; exact h), List.getElem?_eq_none (by rw [List.length_replicate]; exact h)]
theorem carO_all (l : List Nat) (n : Nat) : carO l n n = digs (valD l) n := by
  unfold carO digs
  apply List.map_congr_left
  intro j hj
  rw [if_pos (List.mem_range.1 hj), cK_dig]
theorem carO_set (l : List Nat) (n i : Nat) (hi : i < n) : (carO l n i).set i ((cK l i + l.getD i 0) % 256) = carO l n (i + 1) := by
  apply List.ext_getElem?
  intro j
  rcases Nat.lt_or_ge j n with h | h
  · by_cases e : j = i
    · subst e
      rw [List.getElem?_set_self (by rw [carO_len]; exact h)]
      unfold carO
      rw [List.getElem?_map, List.getElem?_range h]; simp
    · rw [List.getElem?_set_ne (fun e2 => e e2.symm)]
      unfold carO
      rw [List.getElem?_map, List.getElem?_map, List.getElem?_range h]
      simp only [Option.map_some, Option.some.injEq]
      by_cases h2 : j < i
      · rw [if_pos h2, if_pos (by omega)]
      · rw [if_neg h2, if_neg (by omega)]
  · rw [List.getElem?_eq_none (by rw [List.length_set, carO_len]; exact h), List.getElem?_eq_none (by rw [carO_len]; exact h)]
theorem cK_le {l : List Nat} {m : Nat} (h : ∀ x ∈ l, x ≤ 255 * m) (j : Nat) : cK l j ≤ m := by
  induction j with
  | zero => exact Nat.zero_le _
  | succ j ih =>
    have : l.getD j 0 ≤ 255 * m := by
      rw [List.getD_eq_getElem?_getD]
      rcases Nat.lt_or_ge j l.length with h2 | h2
      · rw [List.getElem?_eq_getElem h2]; exact h _ (List.getElem_mem h2)
      · rw [List.getElem?_eq_none h2]; exact Nat.zero_le _
    rw [cK]; omega
/-- what lies above 130 bits comes in five times below -/
def fold5 (V : Nat) : Nat := V % 1361129467683753853853498429727072845824 + 5 * (V / 1361129467683753853853498429727072845824)
def folds (V : Nat) : Nat → Nat
  | 0 => V
  | n + 1 => fold5 (folds V n)
theorem fold5_mod (V : Nat) : fold5 V % pP = V % pP := by
  unfold fold5 pP; omega
theorem folds_mod (V n : Nat) : folds V n % pP = V % pP := by
  induction n with
  | zero => rfl
  | succ n ih => rw [folds, fold5_mod, ih]
theorem folds_lt (V : Nat) (hV : V < 1361129467683753853853498429727072845824 * 1361129467683753853853498429727072845824) : folds V 4 < 1361129467683753853853498429727072845824 := by
  simp only [folds, fold5]
  omega
theorem folds_le (V n : Nat) (hV : V < 1361129467683753853853498429727072845824 * 1361129467683753853853498429727072845824) : folds V n < 1361129467683753853853498429727072845824 * 1361129467683753853853498429727072845824 := by
  induction n with
  | zero => exact hV
  | succ n ih => rw [folds]; unfold fold5; omega
def low17 (V : Nat) : List Nat := (digs V 40).take 16 ++ [V / 256 ^ 16 % 256 % 4]
def highN (V i : Nat) : List Nat := (List.range i).map fun j => V / 256 ^ (16 + j) % 256 / 4 + V / 256 ^ (16 + j + 1) % 256 % 4 * 64
theorem highN_eq (V i : Nat) : highN V i = digs (V / 1361129467683753853853498429727072845824) i := by
  unfold highN digs
  apply List.map_congr_left
  intro j _
  have e : V / 1361129467683753853853498429727072845824 / 256 ^ j = V / 256 ^ (16 + j) / 4 := by
    rw [Nat.div_div_eq_div_mul, Nat.div_div_eq_div_mul]
    congr 1
    rw [Nat.pow_add, show (1361129467683753853853498429727072845824 : Nat) = 256 ^ 16 * 4 by decide, Nat.mul_assoc, Nat.mul_assoc, Nat.mul_comm 4]
  rw [e, Nat.pow_succ, ← Nat.div_div_eq_div_mul]
  omega
theorem low17_val (V : Nat) : valD (low17 V) = V % 1361129467683753853853498429727072845824 := by
  unfold low17
  have e : (digs V 40).take 16 = digs V 16 := by
    unfold digs; rw [← List.map_take, List.take_range]; rfl
  rw [e, valD_append, valD_digs, digs_len]
  simp only [valD]
  have := Nat.mod_mul (x := V) (a := 256 ^ 16) (b := 4)
  rw [show (1361129467683753853853498429727072845824 : Nat) = 256 ^ 16 * 4 by decide, this]
  omega
/-- the digits that grow: five times so many of the high ones are in -/
structure LW (V i : Nat) (l : List Nat) : Prop where
  lo : 17 ≤ l.length
  hi : l.length ≤ 30
  val : valD l = V % 1361129467683753853853498429727072845824 + 5 * valD (highN V i)
  new : ∀ j x, i ≤ j → l[j]? = some x → x < 256
  le : ∀ x ∈ l, x ≤ 1600
theorem low17_len (V : Nat) : (low17 V).length = 17 := by simp [low17, digs_len]
theorem LW_zero (V : Nat) : LW V 0 (low17 V) := by
  have hl := low17_len V
  have hle : ∀ x ∈ low17 V, x < 256 := by
    intro x hx
    unfold low17 at hx
    rcases List.mem_append.1 hx with h | h
    · exact digs_lt _ _ _ (List.mem_of_mem_take h)
    · rw [List.mem_singleton.1 h]; omega
  refine ⟨by omega, by omega, by rw [low17_val]; rfl, fun j x _ h => hle x (List.mem_of_getElem? h), fun x hx => ?_⟩
  have := hle x hx; omega
theorem LW.grow {V i : Nat} {l : List Nat} (h : LW V i l) (hi : l.length ≤ i) (h22 : i ≤ 22) : LW V i (l ++ [0]) := by
  have h1 := h.lo
  have h2 := h.hi
  refine ⟨by simp; omega, by simp; omega, by rw [valD_append, h.val]; simp [valD], fun j x hj hx => ?_, fun x hx => ?_⟩
  · rcases Nat.lt_or_ge j l.length with hjl | hjl
    · rw [List.getElem?_append_left hjl] at hx; exact h.new j x hj hx
    · rw [List.getElem?_append_right hjl] at hx
      have := List.mem_of_getElem? hx
      rw [List.mem_singleton.1 this]; decide
  · rcases List.mem_append.1 hx with hx | hx
    · exact h.le x hx
    · rw [List.mem_singleton.1 hx]; decide
theorem highN_succ (V i : Nat) : valD (highN V (i + 1)) = valD (highN V i) + 256 ^ i * (V / 256 ^ (16 + i) % 256 / 4 + V / 256 ^ (16 + i + 1) % 256 % 4 * 64) := by
  unfold highN
  rw [List.range_succ, List.map_append, valD_append, List.length_map, List.length_range]; simp [valD]
theorem LW.step {V i x d : Nat} {l : List Nat} (h : LW V i l) (hx : l[i]? = some x) (hd : d = V / 256 ^ (16 + i) % 256 / 4 + V / 256 ^ (16 + i + 1) % 256 % 4 * 64) : LW V (i + 1) (l.set i (x + 5 * d)) := by
  have h1 := h.new i x (Nat.le_refl _) hx
  refine ⟨by rw [List.length_set]; exact h.lo, by rw [List.length_set]; exact h.hi, ?_, fun j y hj hy => ?_, fun y hy => ?_⟩
  · rw [valD_set _ _ _ _ hx, h.val, highN_succ, ← hd, Nat.mul_add, Nat.mul_left_comm]; omega
  · rw [List.getElem?_set_ne (by omega)] at hy; exact h.new j y (by omega) hy
  · rcases List.mem_or_eq_of_mem_set hy with hy | rfl
    · exact h.le y hy
    · omega
theorem LW.all {V : Nat} {l : List Nat} (h : LW V 23 l) (hV : V < 1361129467683753853853498429727072845824 * 1361129467683753853853498429727072845824) : valD l = fold5 V := by
  have e : (256 : Nat) ^ 23 = 24519928653854221733733552434404946937899825954937634816 := by decide
  rw [h.val, highN_eq, valD_digs, Nat.mod_eq_of_lt (a := V / 1361129467683753853853498429727072845824) (b := 256 ^ 23) (by rw [e]; omega)]
  rfl
/-- which of two numbers of as many digits is less -/
def lessS (a b : List Nat) : Bool := decide (valD a < valD b)
theorem less_top {a b : List Nat} {n x y : Nat} (ha : ∀ z ∈ a, z < 256) (hb : ∀ z ∈ b, z < 256) (hla : a.length = b.length) (hn : n < a.length) (ex : a[n]? = some x) (ey : b[n]? = some y) (hne : x ≠ y)
    (hd : a.drop (n + 1) = b.drop (n + 1)) : decide (x < y) = lessS a b := by
  have e1 : valD a = valD (a.take n) + 256 ^ n * (x + 256 * valD (a.drop (n + 1))) := by
    have := List.take_append_drop n a
    rw [← this, valD_append, List.length_take, Nat.min_eq_left (by omega), this, valD_drop, List.getD_eq_getElem?_getD, ex]; rfl
  have e2 : valD b = valD (b.take n) + 256 ^ n * (y + 256 * valD (b.drop (n + 1))) := by
    have := List.take_append_drop n b
    rw [← this, valD_append, List.length_take, Nat.min_eq_left (by omega), this, valD_drop, List.getD_eq_getElem?_getD, ey]; rfl
  have l1 := valD_lt (xs := a.take n) fun z hz => ha z (List.mem_of_mem_take hz)
  have l2 := valD_lt (xs := b.take n) fun z hz => hb z (List.mem_of_mem_take hz)
  rw [List.length_take, Nat.min_eq_left (by omega)] at l1 l2
  unfold lessS
  rw [e1, e2, hd]
  generalize valD (b.drop (n + 1)) = t
  generalize valD (a.take n) = u at *
  generalize valD (b.take n) = v at *
  generalize 256 ^ n = q at *
  rcases Nat.lt_or_ge x y with h | h
  · have : q * (x + 256 * t) + q ≤ q * (y + 256 * t) := by
      rw [← Nat.mul_succ]; exact Nat.mul_le_mul_left _ (by omega)
    rw [decide_eq_true h, decide_eq_true (by omega)]
  · have : q * (y + 256 * t) + q ≤ q * (x + 256 * t) := by
      rw [← Nat.mul_succ]; exact Nat.mul_le_mul_left _ (by omega)
    rw [decide_eq_false (by omega), decide_eq_false (by omega)]
theorem less_eq {a b : List Nat} (h : a = b) : lessS a b = false := by
  subst h; unfold lessS; rw [decide_eq_false (Nat.lt_irrefl _)]
/-- the prime's digits -/
def pD : List Nat := digs pP 40
/-- what is borrowed; the difference while it is made -/
def bK (l p : List Nat) : Nat → Nat
  | 0 => 0
  | i + 1 => if l.getD i 0 < p.getD i 0 + bK l p i then 1 else 0
def subO (l p : List Nat) (i : Nat) : List Nat := (List.range l.length).map fun j => if j < i then (l.getD j 0 + 256 - p.getD j 0 - bK l p j) % 256 else l.getD j 0
theorem bK_le (l p : List Nat) (i : Nat) : bK l p i ≤ 1 := by
  cases i with
  | zero => exact Nat.zero_le _
  | succ i => rw [bK]; split <;> omega
theorem subO_len (l p : List Nat) (i : Nat) : (subO l p i).length = l.length := by simp [subO]
theorem subO_zero (l p : List Nat) : subO l p 0 = l := by
  apply List.ext_getElem?
  intro j
  rcases Nat.lt_or_ge j l.length with h | h
  · unfold subO; rw [List.getElem?_map, List.getElem?_range h, List.getElem?_eq_getElem h]; simp [h]
  · rw [List.getElem?_eq_none (by rw [subO_len]; exact h), List.getElem?_eq_none h]
theorem subO_get (l p : List Nat) (i : Nat) (x : Nat) (h : l[i]? = some x) : (subO l p i)[i]? = some x := by
  have hl := (List.getElem?_eq_some_iff.1 h).1
  unfold subO; rw [List.getElem?_map, List.getElem?_range hl]; simp [List.getD_eq_getElem?_getD, h]
theorem subO_set (l p : List Nat) (i : Nat) (hi : i < l.length) : (subO l p i).set i ((l.getD i 0 + 256 - p.getD i 0 - bK l p i) % 256) = subO l p (i + 1) := by
  apply List.ext_getElem?
  intro j
  rcases Nat.lt_or_ge j l.length with h | h
  · by_cases e : j = i
    · subst e
      rw [List.getElem?_set_self (by rw [subO_len]; exact h)]
      unfold subO
      rw [List.getElem?_map, List.getElem?_range h]; simp
    · rw [List.getElem?_set_ne (fun e2 => e e2.symm)]
      unfold subO
      rw [List.getElem?_map, List.getElem?_map, List.getElem?_range h]
      simp only [Option.map_some, Option.some.injEq]
      by_cases h2 : j < i
      · rw [if_pos h2, if_pos (by omega)]
      · rw [if_neg h2, if_neg (by omega)]
  · rw [List.getElem?_eq_none (by rw [List.length_set, subO_len]; exact h), List.getElem?_eq_none (by rw [subO_len]; exact h)]
theorem sub_val {l p : List Nat} (hl : ∀ z ∈ l, z < 256) (hp : ∀ z ∈ p, z < 256) (hlp : p.length = l.length) (i : Nat) (hi : i ≤ l.length) :
    valD (l.take i) + 256 ^ i * bK l p i = valD (p.take i) + valD ((subO l p l.length).take i) := by
  induction i with
  | zero => simp [valD, bK]
  | succ i ih =>
    have hil : i < l.length := by omega
    obtain ⟨x, ex⟩ : ∃ x, l[i]? = some x := ⟨_, List.getElem?_eq_getElem hil⟩
    obtain ⟨y, ey⟩ : ∃ y, p[i]? = some y := ⟨_, List.getElem?_eq_getElem (by omega)⟩
    have lx := hl x (List.mem_of_getElem? ex)
    have ly := hp y (List.mem_of_getElem? ey)
    have hb := bK_le l p i
    have gx : l.getD i 0 = x := by rw [List.getD_eq_getElem?_getD, ex]; rfl
    have gy : p.getD i 0 = y := by rw [List.getD_eq_getElem?_getD, ey]; rfl
    have es : (subO l p l.length)[i]? = some ((x + 256 - y - bK l p i) % 256) := by
      unfold subO; rw [List.getElem?_map, List.getElem?_range hil, Option.map_some, if_pos hil, gx, gy]
    have ih := ih (by omega)
    rw [valD_take_succ _ _ _ ex, valD_take_succ _ _ _ ey, valD_take_succ _ _ _ es, bK, gx, gy, Nat.pow_succ]
    generalize valD (l.take i) = A at *
    generalize valD (p.take i) = Bv at *
    generalize valD ((subO l p l.length).take i) = C at *
    generalize bK l p i = b at *
    generalize 256 ^ i = q at *
    by_cases h : x < y + b
    · rw [if_pos h, show (x + 256 - y - b) % 256 = x + 256 - y - b by omega]
      have e : q * 256 * 1 + q * x = q * y + q * (x + 256 - y - b) + q * b := by
        rw [← Nat.mul_add, ← Nat.mul_add, Nat.mul_one, ← Nat.mul_add]
        congr 1; omega
      omega
    · rw [if_neg h, show (x + 256 - y - b) % 256 = x - y - b by omega]
      have e : q * x = q * y + q * (x - y - b) + q * b := by
        rw [← Nat.mul_add, ← Nat.mul_add]
        congr 1; omega
      omega
theorem sub_all {l p : List Nat} (hl : ∀ z ∈ l, z < 256) (hp : ∀ z ∈ p, z < 256) (hlp : p.length = l.length) (hle : valD p ≤ valD l) : subO l p l.length = digs (valD l - valD p) l.length := by
  have h := sub_val hl hp hlp l.length (Nat.le_refl _)
  rw [List.take_of_length_le (Nat.le_refl _), List.take_of_length_le (by omega), List.take_of_length_le (by rw [subO_len]; exact Nat.le_refl _)] at h
  have hlt : ∀ z ∈ subO l p l.length, z < 256 := by
    intro z hz
    unfold subO at hz
    obtain ⟨j, hj, rfl⟩ := List.mem_map.1 hz
    rw [if_pos (List.mem_range.1 hj)]
    exact Nat.mod_lt _ (by decide)
  have h1 := valD_lt hlt
  have h2 := valD_lt hl
  rw [subO_len] at h1
  have hb : bK l p l.length = 0 := by
    have := bK_le l p l.length
    rcases Nat.lt_or_ge 0 (bK l p l.length) with h0 | h0
    · have e : bK l p l.length = 1 := by omega
      rw [e] at h; omega
    · omega
  rw [hb] at h
  have := digs_valD hlt
  rw [subO_len] at this
  rw [← this]
  congr 1; omega
/-- what the long number is left with -/
theorem left_val {V : Nat} (hV : V < 1361129467683753853853498429727072845824 * 1361129467683753853853498429727072845824) : V % pP = if folds V 4 < pP then folds V 4 else folds V 4 - pP := by
  have h1 := folds_lt V hV
  rw [← folds_mod V 4]
  generalize folds V 4 = W at *
  unfold pP
  split <;> omega
/-- products laid into digits -/
structure PR (v s : Nat) (l : List Nat) : Prop where
  len : l.length = 40
  val : valD l = v
  le : ∀ x ∈ l, x ≤ 130305 * s
theorem PR_zero : PR 0 0 (List.replicate 40 0) := ⟨by simp, valD_zeros _, fun x hx => by rw [(List.mem_replicate.1 hx).2]; exact Nat.zero_le _⟩
theorem PR.step {v s j a x y : Nat} {l : List Nat} (h : PR v s l) (ha : l[j]? = some a) (hx : x ≤ 511) (hy : y ≤ 255) : PR (v + 256 ^ j * (x * y)) (s + 1) (l.set j (a + x * y)) := by
  have hm : x * y ≤ 511 * 255 := Nat.mul_le_mul hx hy
  have h2 := h.le a (List.mem_of_getElem? ha)
  refine ⟨by rw [List.length_set, h.len], by rw [valD_set _ _ _ _ ha, h.val], fun z hz => ?_⟩
  rcases List.mem_or_eq_of_mem_set hz with hz | rfl
  · have := h.le z hz; omega
  · omega
/-- the reference's last carry is the tag's -/
theorem tcar_cK (V : Nat) (ks : List UInt8) (h : List Nat) (hh : ∀ j, j < 16 → h.getD j 0 = V / 256 ^ j % 256 + (ks.getD j 0).toNat) (i : Nat) (hi : i ≤ 16) : cK h i = tcar V ks i := by
  induction i with
  | zero => rfl
  | succ i ih =>
    rw [cK, tcar, ih (by omega), hh i (by omega), show (256 : Nat) ^ i = 2 ^ (8 * i) by rw [Nat.pow_mul]]
    congr 1; omega
theorem tout_carO (V : Nat) (ks : List UInt8) (h : List Nat) (hh : ∀ j, j < 16 → h.getD j 0 = V / 256 ^ j % 256 + (ks.getD j 0).toNat) : (carO h 16 16).map UInt8.ofNat = tout V ks 16 := by
  unfold carO tout
  rw [List.map_map]
  apply List.map_congr_left
  intro j hj
  have hj := List.mem_range.1 hj
  simp only [Function.comp]
  rw [if_pos hj, if_pos hj, tcar_cK V ks h hh j (by omega), hh j hj, show (256 : Nat) ^ j = 2 ^ (8 * j) by rw [Nat.pow_mul]]
  apply UInt8.toNat_inj.1
  simp only [UInt8.toNat_ofNat']
  omega
end Go.Proofs.Ytlncnjcbgfeaoaa
