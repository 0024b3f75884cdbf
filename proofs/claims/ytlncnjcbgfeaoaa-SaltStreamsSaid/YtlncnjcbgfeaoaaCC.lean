/- limbs' values: plain laws; the tag as plain functions. -/
import Derived.Test.YtlncnjcbgfeaoaaCA
set_option maxRecDepth 100000
set_option linter.unusedVariables false
namespace Go.Proofs.Ytlncnjcbgfeaoaa
def pP : Nat := 1361129467683753853853498429727072845819
def valL : List Nat → Nat
  | [] => 0
  | x :: xs => x + 67108864 * valL xs
theorem five {h : List Nat} (hl : h.length = 5) : ∃ a b c d e, h = [a, b, c, d, e] := by
  match h, hl with
  | [a, b, c, d, e], _ => exact ⟨a, b, c, d, e, rfl⟩
/-- limbs as a carry leaves them -/
structure NF (h : List Nat) : Prop where
  h : ∃ a b c d e, h = [a, b, c, d, e] ∧ a < 67108869 ∧ b < 67108864 ∧ c < 67108864 ∧ d < 67108864 ∧ e < 67108864
theorem cpass_eq (a b c d e : Nat) : ∃ b' c' d' e' : Nat, b' = b + a / 67108864 ∧ c' = c + b' / 67108864 ∧ d' = d + c' / 67108864 ∧ e' = e + d' / 67108864 ∧
    cpass [a, b, c, d, e] 5 = [a % 67108864 + 5 * (e' / 67108864), b' % 67108864, c' % 67108864, d' % 67108864, e' % 67108864] :=
  ⟨_, _, _, _, rfl, rfl, rfl, rfl, rfl⟩
theorem cpass_val (a b c d e : Nat) : ∃ q, valL [a, b, c, d, e] = valL (cpass [a, b, c, d, e] 5) + q * pP := by
  obtain ⟨b', c', d', e', hb, hc, hd, he, hp⟩ := cpass_eq a b c d e
  refine ⟨e' / 67108864, ?_⟩
  rw [hp]
  simp only [valL, pP]
  omega
theorem cars_val {h : List Nat} (hl : h.length = 5) : ∃ q, valL h = valL (cars h 2) + q * pP := by
  obtain ⟨a, b, c, d, e, rfl⟩ := five hl
  obtain ⟨q1, h1⟩ := cpass_val a b c d e
  obtain ⟨b', c', d', e', _, _, _, _, hp⟩ := cpass_eq a b c d e
  show ∃ q, _ = valL (cpass (cpass [a, b, c, d, e] 5) 5) + q * pP
  rw [hp] at h1 ⊢
  obtain ⟨q2, h2⟩ := cpass_val (a % 67108864 + 5 * (e' / 67108864)) (b' % 67108864) (c' % 67108864) (d' % 67108864) (e' % 67108864)
  exact ⟨q1 + q2, by rw [h1, h2, Nat.add_mul]; omega⟩
theorem cars_nf {h : List Nat} (H : LM h 0) : NF (cars h 2) := by
  obtain ⟨a, b, c, d, e, rfl⟩ := five H.len
  have la := H.le a (by simp)
  have lb := H.le b (by simp)
  have lc := H.le c (by simp)
  have ld := H.le d (by simp)
  have le := H.le e (by simp)
  clear H
  obtain ⟨b', c', d', e', hb, hc, hd, he, hp⟩ := cpass_eq a b c d e
  show NF (cpass (cpass [a, b, c, d, e] 5) 5)
  rw [hp]
  clear hp
  have lq : e' / 67108864 ≤ 18179869184 := by omega
  generalize e' / 67108864 = q at *
  have l0 : a % 67108864 + 5 * q ≤ 90966454784 := by omega
  generalize a % 67108864 + 5 * q = a1 at *
  have l1 : b' % 67108864 < 67108864 := Nat.mod_lt _ (by decide)
  have l2 : c' % 67108864 < 67108864 := Nat.mod_lt _ (by decide)
  have l3 : d' % 67108864 < 67108864 := Nat.mod_lt _ (by decide)
  have l4 : e' % 67108864 < 67108864 := Nat.mod_lt _ (by decide)
  generalize b' % 67108864 = b1 at *
  generalize c' % 67108864 = c1 at *
  generalize d' % 67108864 = d1 at *
  generalize e' % 67108864 = e1 at *
  clear hb hc hd he la lb lc ld le
  obtain ⟨b2, c2, d2, e2, hb, hc, hd, he, hp⟩ := cpass_eq a1 b1 c1 d1 e1
  rw [hp]
  have m2 : b2 / 67108864 ≤ 1 := by omega
  have m3 : c2 / 67108864 ≤ 1 := by omega
  have m4 : d2 / 67108864 ≤ 1 := by omega
  have m5 : e2 / 67108864 ≤ 1 := by omega
  refine ⟨_, _, _, _, _, rfl, ?_, Nat.mod_lt _ (by decide), Nat.mod_lt _ (by decide), Nat.mod_lt _ (by decide), Nat.mod_lt _ (by decide)⟩
  omega
theorem NF.lf {h : List Nat} (H : NF h) : LF h := by
  obtain ⟨a, b, c, d, e, rfl, ha, hb, hc, hd, he⟩ := H.h
  refine ⟨rfl, fun x hx => ?_⟩
  simp only [List.mem_cons, List.not_mem_nil, or_false] at hx
  omega
/-- limbs that are wholly carried -/
structure NN (h : List Nat) : Prop where
  h : ∃ a b c d e, h = [a, b, c, d, e] ∧ a < 67108864 ∧ b < 67108864 ∧ c < 67108864 ∧ d < 67108864 ∧ e < 67108864
theorem cpass_nn (a b c d e : Nat) (ha : a < 67108869) (hb : b < 67108864) (hc : c < 67108864) (hd : d < 67108864) (he : e < 67108864) : NN (cpass [a, b, c, d, e] 5) := by
  obtain ⟨b', c', d', e', kb, kc, kd, ke, hp⟩ := cpass_eq a b c d e
  rw [hp]
  have m2 : b' / 67108864 ≤ 1 := by omega
  have m3 : c' / 67108864 ≤ 1 := by omega
  have m4 : d' / 67108864 ≤ 1 := by omega
  have m5 : e' / 67108864 ≤ 1 := by omega
  refine ⟨_, _, _, _, _, rfl, ?_, Nat.mod_lt _ (by decide), Nat.mod_lt _ (by decide), Nat.mod_lt _ (by decide), Nat.mod_lt _ (by decide)⟩
  by_cases h0 : e' / 67108864 = 0
  · rw [h0]; have := Nat.mod_lt a (show 67108864 > 0 by decide); omega
  · have h1 : e' / 67108864 = 1 := by omega
    have h2 : d' / 67108864 = 1 := by omega
    have h3 : c' / 67108864 = 1 := by omega
    have h4 : b' / 67108864 = 1 := by omega
    have h5 : a / 67108864 = 1 := by omega
    omega
theorem NN.nf {h : List Nat} (H : NN h) : NF h := by
  obtain ⟨a, b, c, d, e, rfl, ha, hb, hc, hd, he⟩ := H.h
  exact ⟨a, b, c, d, e, rfl, by omega, hb, hc, hd, he⟩
theorem cars_nn {h : List Nat} (H : NF h) : NN (cars h 2) := by
  obtain ⟨a, b, c, d, e, rfl, ha, hb, hc, hd, he⟩ := H.h
  show NN (cpass (cpass [a, b, c, d, e] 5) 5)
  obtain ⟨a1, b1, c1, d1, e1, h1, ka, kb, kc, kd, ke⟩ := (cpass_nn a b c d e ha hb hc hd he).h
  rw [h1]
  exact cpass_nn a1 b1 c1 d1 e1 (by omega) kb kc kd ke
theorem gup_eq (a b c d e : Nat) : ∃ b' c' d' e' : Nat, b' = b + (a + 5) / 67108864 ∧ c' = c + b' / 67108864 ∧ d' = d + c' / 67108864 ∧ e' = e + d' / 67108864 ∧
    gup (([a, b, c, d, e] : List Nat).set 0 (([a, b, c, d, e] : List Nat).getD 0 0 + 5)) 4 = [(a + 5) % 67108864, b' % 67108864, c' % 67108864, d' % 67108864, e'] :=
  ⟨_, _, _, _, rfl, rfl, rfl, rfl, rfl⟩
theorem leastS_val {h : List Nat} (H : NN h) : NN (leastS h) ∧ valL (leastS h) = valL h % pP := by
  obtain ⟨a, b, c, d, e, rfl, ha, hb, hc, hd, he⟩ := H.h
  obtain ⟨b', c', d', e', kb, kc, kd, ke, hp⟩ := gup_eq a b c d e
  have hu : leastS [a, b, c, d, e] = if e' / 67108864 = 0 then [a, b, c, d, e] else [(a + 5) % 67108864, b' % 67108864, c' % 67108864, d' % 67108864, e' % 67108864] := by
    unfold leastS
    rw [hp]; rfl
  rw [hu]
  have hv : valL [a, b, c, d, e] + 5 = valL [(a + 5) % 67108864, b' % 67108864, c' % 67108864, d' % 67108864, e' % 67108864] + e' / 67108864 * 1361129467683753853853498429727072845824 := by
    simp only [valL]; omega
  have hw : valL [a, b, c, d, e] < 1361129467683753853853498429727072845824 := by simp only [valL]; omega
  have hx : valL [(a + 5) % 67108864, b' % 67108864, c' % 67108864, d' % 67108864, e' % 67108864] < 1361129467683753853853498429727072845824 := by simp only [valL]; omega
  have hq : e' / 67108864 ≤ 1 := by omega
  by_cases h0 : e' / 67108864 = 0
  · rw [if_pos h0]
    refine ⟨H, ?_⟩
    rw [h0] at hv
    rw [Nat.mod_eq_of_lt]
    unfold pP; omega
  · rw [if_neg h0]
    have h1 : e' / 67108864 = 1 := by omega
    refine ⟨⟨_, _, _, _, _, rfl, Nat.mod_lt _ (by decide), Nat.mod_lt _ (by decide), Nat.mod_lt _ (by decide), Nat.mod_lt _ (by decide), Nat.mod_lt _ (by decide)⟩, ?_⟩
    rw [h1] at hv
    generalize valL [(a + 5) % 67108864, b' % 67108864, c' % 67108864, d' % 67108864, e' % 67108864] = g at *
    generalize valL [a, b, c, d, e] = v at *
    unfold pP; omega
theorem tmul_eq (a0 a1 a2 a3 a4 b0 b1 b2 b3 b4 : Nat) : tmul [a0, a1, a2, a3, a4] [b0, b1, b2, b3, b4] 5 =
    [0 + a0*b0 + 5*(a1*b4) + 5*(a2*b3) + 5*(a3*b2) + 5*(a4*b1), 0 + a0*b1 + a1*b0 + 5*(a2*b4) + 5*(a3*b3) + 5*(a4*b2), 0 + a0*b2 + a1*b1 + a2*b0 + 5*(a3*b4) + 5*(a4*b3), 0 + a0*b3 + a1*b2 + a2*b1 + a3*b0 + 5*(a4*b4), 0 + a0*b4 + a1*b3 + a2*b2 + a3*b1 + a4*b0] := by
  simp [tmul, trow, tstep]
theorem tmul_val {h r : List Nat} (hl : h.length = 5) (rl : r.length = 5) : ∃ q, valL h * valL r = valL (tmul h r 5) + q * pP := by
  obtain ⟨a0, a1, a2, a3, a4, rfl⟩ := five hl
  obtain ⟨b0, b1, b2, b3, b4, rfl⟩ := five rl
  rw [tmul_eq]
  refine ⟨(a1*b4+a2*b3+a3*b2+a4*b1) + 67108864 * ((a2*b4+a3*b3+a4*b2) + 67108864 * ((a3*b4+a4*b3) + 67108864*(a4*b4))), ?_⟩
  simp only [valL, pP]
  grind
theorem ldL_lf (V : Nat) : LF (ldL V 5 0) := by
  refine ⟨ldL_len _ _ _, fun x hx => ?_⟩
  unfold ldL at hx
  obtain ⟨j, hj, rfl⟩ := List.mem_map.1 hx
  have hj5 := List.mem_range.1 hj
  rw [if_pos hj5]
  have := Nat.mod_lt (V / 2 ^ (26 * j)) (show 2 ^ 26 > 0 by decide)
  omega
theorem ldL_val (V : Nat) (hV : V < 1361129467683753853853498429727072845824) : valL (ldL V 5 0) = V := by
  have e : ldL V 5 0 = [V / 2 ^ (26 * 0) % 2 ^ 26, V / 2 ^ (26 * 1) % 2 ^ 26, V / 2 ^ (26 * 2) % 2 ^ 26, V / 2 ^ (26 * 3) % 2 ^ 26, V / 2 ^ (26 * 4) % 2 ^ 26] := by simp [ldL, List.range_succ]
  rw [e]
  simp only [valL]
  omega
theorem mod_bit (x e : Nat) (he : e < 26) : x % 67108864 / 2 ^ e % 2 = x / 2 ^ e % 2 := by
  have h := Nat.testBit_mod_two_pow x 26 e
  rw [decide_eq_true he, Bool.true_and, Nat.testBit_eq_decide_div_mod_eq, Nat.testBit_eq_decide_div_mod_eq, show (2 : Nat) ^ 26 = 67108864 by rfl] at h
  have h2 := decide_eq_decide.1 h
  have h3 := Nat.mod_lt (x % 67108864 / 2 ^ e) (show 2 > 0 by decide)
  have h4 := Nat.mod_lt (x / 2 ^ e) (show 2 > 0 by decide)
  omega
theorem NN.limb {h : List Nat} (H : NN h) (j : Nat) (hj : j < 5) : h[j]? = some (valL h / 2 ^ (26 * j) % 67108864) := by
  obtain ⟨a, b, c, d, e, rfl, ha, hb, hc, hd, he⟩ := H.h
  simp only [valL]
  have hk : j = 0 ∨ j = 1 ∨ j = 2 ∨ j = 3 ∨ j = 4 := by omega
  rcases hk with rfl | rfl | rfl | rfl | rfl <;> simp <;> omega
theorem NN.bit {h : List Nat} (H : NN h) (m : Nat) (hm : m < 130) : ∃ x, h[m / 26]? = some x ∧ x < 67108864 ∧ x / 2 ^ (m % 26) % 2 = valL h / 2 ^ m % 2 := by
  refine ⟨_, H.limb (m / 26) (by omega), Nat.mod_lt _ (by decide), ?_⟩
  rw [mod_bit _ _ (Nat.mod_lt _ (by decide)), Nat.div_div_eq_div_mul, ← Nat.pow_add]
  congr 3; omega
/-- a part of at most sixteen bytes, a one behind it, filled -/
def blk17 (p : List UInt8) : List UInt8 := p.take 16 ++ [1] ++ List.replicate (16 - (p.take 16).length) 0
theorem blk17_len (p : List UInt8) : (blk17 p).length = 17 := by
  unfold blk17; simp only [List.length_append, List.length_take, List.length_singleton, List.length_replicate]; omega
/-- limbs added, so many of them -/
def addL (h x : List Nat) (i : Nat) : List Nat := (List.range 5).map fun j => if j < i then h.getD j 0 + x.getD j 0 else h.getD j 0
theorem addL_len (h x : List Nat) (i : Nat) : (addL h x i).length = 5 := by simp [addL]
theorem addL_zero {h : List Nat} (hl : h.length = 5) (x : List Nat) : addL h x 0 = h := by
  obtain ⟨a, b, c, d, e, rfl⟩ := five hl
  simp [addL, List.range_succ]
theorem addL_get (h x : List Nat) (i : Nat) (hi : i < 5) (a : Nat) (ea : h[i]? = some a) : (addL h x i)[i]? = some a := by
  unfold addL; rw [List.getElem?_map, List.getElem?_range hi]; simp [ea]
theorem addL_set (h x : List Nat) (i : Nat) (hi : i < 5) (a b : Nat) (ea : h[i]? = some a) (eb : x[i]? = some b) : (addL h x i).set i (a + b) = addL h x (i + 1) := by
  apply List.ext_getElem?
  intro j
  rcases Nat.lt_or_ge j 5 with hj | hj
  · by_cases h1 : j = i
    · subst h1
      rw [List.getElem?_set_self (by rw [addL_len]; omega)]
      unfold addL
      rw [List.getElem?_map, List.getElem?_range hj]; simp [ea, eb]
    · rw [List.getElem?_set_ne (fun h2 => h1 h2.symm)]
      unfold addL
      rw [List.getElem?_map, List.getElem?_map, List.getElem?_range hj]
      simp only [Option.map_some, Option.some.injEq]
      by_cases h2 : j < i
      · rw [if_pos h2, if_pos (by omega)]
      · rw [if_neg h2, if_neg (by omega)]
  · rw [List.getElem?_eq_none (by rw [List.length_set, addL_len]; omega), List.getElem?_eq_none (by rw [addL_len]; omega)]
theorem addL_lm {h x : List Nat} (Hh : LF h) (Hx : LF x) : LM (addL h x 5) 0 := by
  refine ⟨addL_len _ _ _, fun y hy => ?_⟩
  unfold addL at hy
  obtain ⟨j, hj, rfl⟩ := List.mem_map.1 hy
  have hj5 := List.mem_range.1 hj
  obtain ⟨a, ea, la⟩ := Hh.get j hj5
  obtain ⟨b, eb, lb⟩ := Hx.get j hj5
  simp only [List.getD_eq_getElem?_getD, ea, eb, Option.getD_some]
  rw [if_pos hj5]; omega
theorem addL_val {h x : List Nat} (hl : h.length = 5) (xl : x.length = 5) : valL (addL h x 5) = valL h + valL x := by
  obtain ⟨a0, a1, a2, a3, a4, rfl⟩ := five hl
  obtain ⟨b0, b1, b2, b3, b4, rfl⟩ := five xl
  simp [addL, List.range_succ, valL]
  omega
/-- one part -/
def hstep (k h : List Nat) (p : List UInt8) : List Nat := cars (tmul (cars (addL h (ldL (numL (blk17 p)) 5 0) 5) 2) k 5) 2
def hrun (k : List Nat) (p : List UInt8) : Nat → List Nat
  | 0 => [0, 0, 0, 0, 0]
  | n + 1 => hstep k (hrun k p n) (p.drop (16 * n))
theorem hstep_nf {k h : List Nat} (Hk : LF k) (Hh : LF h) (p : List UInt8) : NF (hstep k h p) :=
  cars_nf (LT.mul (cars_nf (addL_lm Hh (ldL_lf _))).lf Hk 5 (Nat.le_refl _)).room
theorem hrun_nf {k : List Nat} (Hk : LF k) (p : List UInt8) (n : Nat) : NF (hrun k p n) := by
  induction n with
  | zero => exact ⟨0, 0, 0, 0, 0, rfl, by decide, by decide, by decide, by decide, by decide⟩
  | succ n ih => exact hstep_nf Hk ih.lf _
theorem LF.lm {h : List Nat} (H : LF h) : LM h 0 := ⟨H.len, fun x hx => by have := H.le x hx; omega⟩
/-- the key's first half while it is cut -/
def clA (key : List UInt8) (a b : Nat) : List UInt8 := (List.range 17).map fun i =>
  if i = 16 then 0 else if i % 4 = 3 ∧ i < a then UInt8.ofNat ((key.getD i 0).toNat % 16) else if i % 4 = 0 ∧ 0 < i ∧ i < b then UInt8.ofNat ((key.getD i 0).toNat - (key.getD i 0).toNat % 4) else key.getD i 0
theorem clA_len (key : List UInt8) (a b : Nat) : (clA key a b).length = 17 := by simp [clA]
theorem clA_get (key : List UInt8) (a b i : Nat) (hi : i < 17) : (clA key a b)[i]? = some (if i = 16 then 0 else if i % 4 = 3 ∧ i < a then UInt8.ofNat ((key.getD i 0).toNat % 16) else if i % 4 = 0 ∧ 0 < i ∧ i < b then UInt8.ofNat ((key.getD i 0).toNat - (key.getD i 0).toNat % 4) else key.getD i 0) := by
  unfold clA; rw [List.getElem?_map, List.getElem?_range hi]; rfl
theorem clA_zero (key : List UInt8) (hk : key.length = 32) : clA key 3 4 = key.take 16 ++ [0] := by
  apply List.ext_getElem?
  intro i
  rcases Nat.lt_or_ge i 17 with hi | hi
  · rw [clA_get key 3 4 i hi]
    by_cases h : i = 16
    · subst h
      rw [if_pos rfl, List.getElem?_append_right (by simp [hk]), List.length_take, hk]; rfl
    · rw [if_neg h, if_neg (by omega), if_neg (by omega), List.getElem?_append_left (by rw [List.length_take, hk]; omega), List.getElem?_take, if_pos (by omega), List.getD_eq_getElem?_getD, List.getElem?_eq_getElem (by omega)]; rfl
  · rw [List.getElem?_eq_none (by rw [clA_len]; omega), List.getElem?_eq_none (by simp [hk]; omega)]
theorem clA_next (key : List UInt8) (a b i : Nat) (x : UInt8) (a' b' : Nat) (hi : i < 16) (h1 : (clA key a' b')[i]? = some x) (h2 : ∀ j, j < 16 → j ≠ i → (clA key a' b')[j]? = (clA key a b)[j]?) : (clA key a b).set i x = clA key a' b' := by
  apply List.ext_getElem?
  intro j
  rcases Nat.lt_or_ge j 17 with hj | hj
  · by_cases h : j = i
    · subst h; rw [List.getElem?_set_self (by rw [clA_len]; omega), h1]
    · rw [List.getElem?_set_ne (fun e => h e.symm)]
      by_cases h16 : j = 16
      · subst h16; rw [clA_get _ _ _ _ hj, clA_get _ _ _ _ hj, if_pos rfl, if_pos rfl]
      · rw [h2 j (by omega) h]
  · rw [List.getElem?_eq_none (by rw [List.length_set, clA_len]; omega), List.getElem?_eq_none (by rw [clA_len]; omega)]
theorem clA_a (key : List UInt8) (a b : Nat) (ha : a < 16) (h3 : a % 4 = 3) : (clA key a b)[a]? = some (key.getD a 0) ∧ (clA key a b).set a (UInt8.ofNat ((key.getD a 0).toNat % 16)) = clA key (a + 4) b := by
  constructor
  · rw [clA_get _ _ _ _ (by omega), if_neg (by omega), if_neg (by omega), if_neg (by omega)]
  · refine clA_next key a b a _ (a + 4) b ha ?_ fun j hj hne => ?_
    · rw [clA_get _ _ _ _ (by omega), if_neg (by omega), if_pos (by omega)]
    · rw [clA_get _ _ _ _ (by omega), clA_get _ _ _ _ (by omega)]
      simp only [if_neg (show ¬ j = 16 by omega)]
      by_cases h : j % 4 = 3 ∧ j < a
      · have h2 : j % 4 = 3 ∧ j < a + 4 := by omega
        simp only [if_pos h, if_pos h2]
      · have h2 : ¬ (j % 4 = 3 ∧ j < a + 4) := by omega
        simp only [if_neg h, if_neg h2]
theorem clA_b (key : List UInt8) (a b : Nat) (hb : b < 16) (hb0 : 0 < b) (h0 : b % 4 = 0) : (clA key a b)[b]? = some (key.getD b 0) ∧ (clA key a b).set b (UInt8.ofNat ((key.getD b 0).toNat - (key.getD b 0).toNat % 4)) = clA key a (b + 4) := by
  constructor
  · rw [clA_get _ _ _ _ (by omega), if_neg (by omega), if_neg (by omega), if_neg (by omega)]
  · refine clA_next key a b b _ a (b + 4) hb ?_ fun j hj hne => ?_
    · rw [clA_get _ _ _ _ (by omega), if_neg (by omega), if_neg (by omega), if_pos (by omega)]
    · rw [clA_get _ _ _ _ (by omega), clA_get _ _ _ _ (by omega)]
      simp only [if_neg (show ¬ j = 16 by omega)]
      by_cases h3 : j % 4 = 3 ∧ j < a
      · simp only [if_pos h3]
      · simp only [if_neg h3]
        by_cases h : j % 4 = 0 ∧ 0 < j ∧ j < b
        · have h2 : j % 4 = 0 ∧ 0 < j ∧ j < b + 4 := by omega
          simp only [if_pos h, if_pos h2]
        · have h2 : ¬ (j % 4 = 0 ∧ 0 < j ∧ j < b + 4) := by omega
          simp only [if_neg h, if_neg h2]
def tagK (key : List UInt8) : List Nat := ldL (numL (clA key 19 16)) 5 0
/-- what is carried into a byte of the tag; the bytes, so many of them -/
def tcar (V : Nat) (ks : List UInt8) : Nat → Nat
  | 0 => 0
  | i + 1 => (tcar V ks i + V / 2 ^ (8 * i) % 256 + (ks.getD i 0).toNat) / 256
theorem tcar_le (V : Nat) (ks : List UInt8) (i : Nat) : tcar V ks i ≤ 1 := by
  induction i with
  | zero => exact Nat.zero_le _
  | succ i ih => rw [tcar]; have := (ks.getD i 0).toNat_lt; have := Nat.mod_lt (V / 2 ^ (8 * i)) (show 256 > 0 by decide); omega
def tout (V : Nat) (ks : List UInt8) (i : Nat) : List UInt8 := (List.range 16).map fun j => if j < i then UInt8.ofNat (tcar V ks j + V / 2 ^ (8 * j) % 256 + (ks.getD j 0).toNat) else 0
theorem tout_len (V : Nat) (ks : List UInt8) (i : Nat) : (tout V ks i).length = 16 := by simp [tout]
theorem tout_zero (V : Nat) (ks : List UInt8) : tout V ks 0 = List.replicate 16 0 := by simp [tout, List.range_succ]
theorem tout_set (V : Nat) (ks : List UInt8) (i : Nat) (hi : i < 16) : (tout V ks i).set i (UInt8.ofNat (tcar V ks i + V / 2 ^ (8 * i) % 256 + (ks.getD i 0).toNat)) = tout V ks (i + 1) := by
  apply List.ext_getElem?
  intro j
  rcases Nat.lt_or_ge j 16 with hj | hj
  · by_cases h1 : j = i
    · subst h1
      rw [List.getElem?_set_self (by rw [tout_len]; omega)]
      unfold tout
      rw [List.getElem?_map, List.getElem?_range hj]; simp
    · rw [List.getElem?_set_ne (fun h2 => h1 h2.symm)]
      unfold tout
      rw [List.getElem?_map, List.getElem?_map, List.getElem?_range hj]
      simp only [Option.map_some, Option.some.injEq]
      by_cases h2 : j < i
      · rw [if_pos h2, if_pos (by omega)]
      · rw [if_neg h2, if_neg (by omega)]
  · rw [List.getElem?_eq_none (by rw [List.length_set, tout_len]; omega), List.getElem?_eq_none (by rw [tout_len]; omega)]
def tagS (key p : List UInt8) : List UInt8 := tout (valL (leastS (cars (hrun (tagK key) p ((p.length + 15) / 16)) 2))) (key.drop 16) 16
/-- the tag, out of the walk's sight -/
structure TG (key p d : List UInt8) : Prop where
  h : tagS key p = d
  len : d.length = 16
theorem TG_ex (key p : List UInt8) : ∃ d, TG key p d := ⟨_, rfl, tout_len _ _ _⟩
end Go.Proofs.Ytlncnjcbgfeaoaa
