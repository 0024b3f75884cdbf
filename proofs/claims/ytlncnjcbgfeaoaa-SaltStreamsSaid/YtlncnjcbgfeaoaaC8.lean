/- salt.load: seventeen bytes as limbs. -/
import Derived.Test.YtlncnjcbgfeaoaaC4
import Derived.Test.YtlncnjcbgfeaoaaC7
set_option maxRecDepth 100000
set_option linter.unusedVariables false
namespace Go.Proofs.Ytlncnjcbgfeaoaa
open Go.RowKit
/-- bytes as a number, the lowest first -/
def numL : List UInt8 → Nat
  | [] => 0
  | x :: xs => x.toNat + 256 * numL xs
theorem numL_drop (xs : List UInt8) : ∀ j : Nat, numL xs / 256 ^ j = numL (xs.drop j) := by
  induction xs with
  | nil => intro j; simp [numL]
  | cons x xs ih =>
    intro j
    cases j with
    | zero => simp
    | succ j =>
      have := x.toNat_lt
      rw [List.drop_succ_cons, ← ih j, numL, Nat.pow_succ, Nat.mul_comm (256 ^ j) 256, ← Nat.div_div_eq_div_mul]
      congr 1; omega
theorem numL_bit (xs : List UInt8) (m : Nat) (y : UInt8) (h : xs[m / 8]? = some y) : numL xs / 2 ^ m % 2 = y.toNat / 2 ^ (m % 8) % 2 := by
  have hy := y.toNat_lt
  have e1 : numL xs / 2 ^ m = numL (xs.drop (m / 8)) / 2 ^ (m % 8) := by
    rw [← numL_drop, Nat.div_div_eq_div_mul]
    congr 1
    rw [show (256 : Nat) = 2 ^ 8 by rfl, ← Nat.pow_mul, ← Nat.pow_add]
    congr 1; omega
  obtain ⟨r, hr⟩ : ∃ r, xs.drop (m / 8) = y :: r := by
    obtain ⟨hlt, he⟩ := List.getElem?_eq_some_iff.1 h
    exact ⟨_, by rw [List.drop_eq_getElem_cons hlt, he]⟩
  rw [e1, hr, numL]
  have h8 : m % 8 < 8 := Nat.mod_lt _ (by decide)
  obtain ⟨e, he⟩ : ∃ e, m % 8 = e := ⟨_, rfl⟩
  rw [he] at h8 ⊢
  have hk : e = 0 ∨ e = 1 ∨ e = 2 ∨ e = 3 ∨ e = 4 ∨ e = 5 ∨ e = 6 ∨ e = 7 := by omega
  rcases hk with rfl | rfl | rfl | rfl | rfl | rfl | rfl | rfl <;> omega
/-- the limbs while they grow -/
def ldL (V i k : Nat) : List Nat := (List.range 5).map fun j => if j < i then V / 2 ^ (26 * j) % 2 ^ 26 else if j = i then V / 2 ^ (26 * i) % 2 ^ k else 0
theorem ldL_len (V i k : Nat) : (ldL V i k).length = 5 := by simp [ldL]
theorem ldL_get (V i k : Nat) (hi : i < 5) : (ldL V i k)[i]? = some (V / 2 ^ (26 * i) % 2 ^ k) := by
  unfold ldL; rw [List.getElem?_map, List.getElem?_range hi]; simp
theorem ldL_set (V i k : Nat) (hi : i < 5) : (ldL V i k).set i (V / 2 ^ (26 * i) % 2 ^ k + 2 ^ k * (V / 2 ^ (26 * i + k) % 2)) = ldL V i (k + 1) := by
  apply List.ext_getElem?
  intro j
  have hs : V / 2 ^ (26 * i) % 2 ^ (k + 1) = V / 2 ^ (26 * i) % 2 ^ k + 2 ^ k * (V / 2 ^ (26 * i + k) % 2) := by
    rw [Nat.pow_succ, Nat.mod_mul, Nat.pow_add, Nat.div_div_eq_div_mul]
  rcases Nat.lt_or_ge j 5 with hj | hj
  · by_cases h : j = i
    · subst h
      rw [List.getElem?_set_self (by rw [ldL_len]; omega), ldL_get _ _ _ hi, hs]
    · rw [List.getElem?_set_ne (fun h2 => h h2.symm)]
      unfold ldL
      rw [List.getElem?_map, List.getElem?_map, List.getElem?_range hj]
      simp [h]
  · rw [List.getElem?_eq_none (by rw [List.length_set, ldL_len]; omega), List.getElem?_eq_none (by rw [ldL_len]; omega)]
theorem ldL_next (V i : Nat) (hi : i < 5) : ldL V i 26 = ldL V (i + 1) 0 := by
  unfold ldL
  apply List.map_congr_left
  intro j _
  by_cases h1 : j < i
  · rw [if_pos h1, if_pos (by omega)]
  · by_cases h2 : j = i
    · subst h2; rw [if_neg h1, if_pos rfl, if_pos (by omega)]
    · rw [if_neg h1, if_neg h2, if_neg (by omega)]
      split
      · rw [Nat.pow_zero, Nat.mod_one]
      · rfl
theorem ldL_zero (V : Nat) : ldL V 0 0 = [0, 0, 0, 0, 0] := by
  unfold ldL
  simp [List.range_succ, Nat.mod_one]
theorem AL.al {w : World} {g : Nat} {t : TypeId} {vs : List Nat} (h : AL w g t vs) (o : Obj) : AL (w.alloc o) g t vs := h.grown (World.grownBy_alloc w o none) (by simp)
theorem AL.rng {w : World} {g : Nat} {t : TypeId} {vs : List Nat} (h : AL w g t vs) : w.rangeAt g 0 (vs.map UV) := fun j v hv => by
  rw [List.getElem?_map] at hv
  obtain ⟨x, hx, rfl⟩ := Option.map_eq_some_iff.1 hv
  rw [Nat.zero_add]; exact h.cell j x hx
theorem iL : (Try.prog.info? 52).map (·.size) = some 5 := by kernel_rfl
/-- limbs stored into an array of the call's own -/
theorem L_storeL {w : World} {ops : Array Oper} {rest : List Oper} {o : Oper} {f : Act} {Q : Exit → Act → World → Prop} (hgd : o.guard = none) (t : TypeId) (x y : Operand) (ho : o.op = .store t x y)
    {g n : Nat} {old : List Nat} (d : List Nat) (hx : f.eval x = .pointer (some ⟨g, 0, none⟩)) (hy : f.eval y = .agg (d.map UV).toArray) (hA : AL w g t old) (hi : (Try.prog.info? t).map (·.size) = some n) (hl : old.length = n) (hl2 : d.length = n)
    (h : ∀ w', AL w' g t d → w.grownBy w' (some g) → wpList Try.prog ops Q rest (f.put o.dst undef) w') : wpList Try.prog ops Q (o :: rest) f w := by
  refine wpList_store_row hgd t x y ho g _ hx hy t _ hA (by rw [List.size_toArray, List.length_map, hl2]; exact hi) (by simp [hl, hl2]) (by rw [Array.all_eq_true_iff_forall_mem]; intro v hv; obtain ⟨z, _, rfl⟩ := List.mem_map.1 (by simpa using hv : v ∈ d.map UV); rfl) ?_
  exact h _ (setRow_heap _ _ _ _ _ _ hA) (grownBy_setRow w g _)
theorem or_up (x b k : Nat) (hx : x < 2 ^ k) (hk : k ≤ 26) (hb : b < 2) : bits .or .u64 (x : Int) (((2 ^ k * b : Nat)) : Int) = ((x + 2 ^ k * b : Nat) : Int) := by
  have h26 : 2 ^ k ≤ 2 ^ 26 := Nat.pow_le_pow_right (by decide) hk
  have hb2 : 2 ^ k * b ≤ 2 ^ 26 := Nat.le_trans (Nat.mul_le_mul h26 (show b ≤ 1 by omega)) (by decide)
  rw [u64_or_nat _ _ (by omega) (by omega), Nat.or_comm, nat_join k _ _ (Nat.mul_mod_right _ _) hx, Nat.add_comm]
set_option maxHeartbeats 4000000 in
theorem load_any (w : World) {p : List UInt8} (hpl : p.length = 17) :
    Calls Try.prog 23 #[.agg (p.map B).toArray] w fun e w' => e = .returned (.agg ((ldL (numL p) 5 0).map UV).toArray) ∧ Below w.heap.size w w' := by
  have hz1 : (w.alloc (.cells (p.map B).toArray 49)).heap.size = w.heap.size + 1 := by simp
  have hz2 : ((w.alloc (.cells (p.map B).toArray 49)).alloc (.cells #[.int .u64 0, .int .u64 0, .int .u64 0, .int .u64 0, .int .u64 0] 52)).heap.size = w.heap.size + 1 + 1 := by simp
  have hA := ((AB_box w 49 p).al (.cells #[.int .u64 0, .int .u64 0, .int .u64 0, .int .u64 0, .int .u64 0] 52)).al (.cells #[.int .u64 0, .int .u64 0, .int .u64 0, .int .u64 0, .int .u64 0] 52)
  have hR := AL.al (show AL ((w.alloc (.cells (p.map B).toArray 49)).alloc (.cells #[.int .u64 0, .int .u64 0, .int .u64 0, .int .u64 0, .int .u64 0] 52)) _ 52 [0, 0, 0, 0, 0] from heap_alloc_new _ _) (.cells #[.int .u64 0, .int .u64 0, .int .u64 0, .int .u64 0, .int .u64 0] 52)
  have hO : AL (((w.alloc (.cells (p.map B).toArray 49)).alloc (.cells #[.int .u64 0, .int .u64 0, .int .u64 0, .int .u64 0, .int .u64 0] 52)).alloc (.cells #[.int .u64 0, .int .u64 0, .int .u64 0, .int .u64 0, .int .u64 0] 52)) _ 52 [0, 0, 0, 0, 0] := heap_alloc_new _ _
  have hb : Below w.heap.size w _ := ((below_alloc w (.cells (p.map B).toArray 49)).alloc (by simp) (.cells #[.int .u64 0, .int .u64 0, .int .u64 0, .int .u64 0, .int .u64 0] 52)).alloc (by simp; omega) (.cells #[.int .u64 0, .int .u64 0, .int .u64 0, .int .u64 0, .int .u64 0] 52)
  rw [hz1] at hR
  rw [hz2] at hO
  obtain ⟨V, hV⟩ : ∃ V, numL p = V := ⟨_, rfl⟩
  have hbit := fun m y h => numL_bit p m y h
  rw [← ldL_zero V] at hO
  rw [hV]
  simp only [hV] at hbit
  have Hbit := Lib.hid hbit
  have hlen := hpl
  clear hz1 hz2 hV hbit
  go_enter Try.func23, Try.ntmps23
  go_upto_region 2 with (fail)
  generalize (World.alloc _ _) = W1 at *
  have l0 := hA.lt
  have l2 := hO.lt
  have HA := Lib.hid hA
  have HR := Lib.hid hR
  have HB := Lib.hid hb
  clear hA hR hb
  go_wp2
  go_loopw [7] (fun s7 wr => ∃ i : Nat, i ≤ 5 ∧ s7 = .int .i64 (i : Int) ∧ AL wr (w.heap.size + 1 + 1) 52 (ldL V i 0) ∧ W1.grownBy wr (some (w.heap.size + 1 + 1))) (fun s7 _ => 5 - (intOf s7).toNat)
  case atStart => exact ⟨0, by omega, rfl, hO, World.grownBy.refl W1 _⟩
  case round =>
    obtain ⟨i, hi, rfl, hX, hg⟩ := hrel
    clear hO
    by_cases hlt : i < 5
    · have HX := Lib.hid hX
      have HG := Lib.hid hg
      clear hX hg
      go_wp2
      rw [show decide ((i : Int) < 5) = true from decide_eq_true (by omega)]
      go_loopw [10] (fun s10 wr => ∃ k : Nat, k ≤ 26 ∧ s10 = .int .i64 (k : Int) ∧ AL wr (w.heap.size + 1 + 1) 52 (ldL V i k) ∧ W1.grownBy wr (some (w.heap.size + 1 + 1))) (fun s10 _ => 26 - (intOf s10).toNat)
      case atStart => exact ⟨0, by omega, rfl, HX.out, HG.out⟩
      case round =>
        obtain ⟨k, hk, rfl, hQ, hgq⟩ := hrel
        by_cases hlt26 : k < 26
        · obtain ⟨m, hm⟩ : ∃ m, 26 * i + k = m := ⟨_, rfl⟩
          have hm136 : m < 136 := by omega
          have hmi : 26 * (i : Int) + (k : Int) = (m : Int) := by omega
          obtain ⟨y, hy⟩ : ∃ y, p[m / 8]? = some y := ⟨_, List.getElem?_eq_getElem (by omega)⟩
          have hbt := Hbit.out m y hy
          obtain ⟨x, hx⟩ : ∃ x, V / 2 ^ (26 * i) % 2 ^ k = x := ⟨_, rfl⟩
          have hxl : x < 2 ^ k := by rw [← hx]; exact Nat.mod_lt _ (Nat.two_pow_pos k)
          have hget := ldL_get V i k hlt
          have hset := ldL_set V i k hlt
          rw [hm, hbt, hx] at hset
          rw [hx] at hget
          obtain ⟨b, hbe⟩ : ∃ b, y.toNat / 2 ^ (m % 8) % 2 = b := ⟨_, rfl⟩
          rw [hbe] at hset
          have hb2 : b < 2 := by omega
          have hor := or_up x b k hxl (by omega) hb2
          have q0 := hQ.cell i x hget
          have f0 := hQ.fr i
          have hAr := HA.out.grown hgq (by simp; omega)
          obtain ⟨j8, hj8⟩ : ∃ j8, m / 8 = j8 := ⟨_, rfl⟩
          have q1 : wr.cell? ⟨w.heap.size, m / 8, none⟩ = some (.int .u8 (y.toNat : Int)) := hAr.cell (m / 8) y hy
          rw [hj8] at q1
          obtain ⟨e8, he8⟩ : ∃ e8, m % 8 = e8 := ⟨_, rfl⟩
          rw [he8] at hbe
          have hj17 : j8 < 17 := by omega
          have he88 : e8 < 8 := by omega
          have d8 : (m : Int) / 8 = (j8 : Int) := by omega
          have r8 : (m : Int) % 8 = (e8 : Int) := by omega
          have hyl := y.toNat_lt
          have hand : bits .and .u8 ((y.toNat : Int) / 2 ^ e8) 1 = (b : Int) := by
            have hlt8 : y.toNat / 2 ^ e8 < 256 := Nat.lt_of_le_of_lt (Nat.div_le_self _ _) hyl
            have h := u8_and_nat (y.toNat / 2 ^ e8) 1 hlt8 (by decide)
            rw [Nat.and_one_is_mod, hbe] at h
            rw [show ((y.toNat : Int) / 2 ^ e8) = ((y.toNat / 2 ^ e8 : Nat) : Int) by simp]
            exact h
          obtain ⟨sv, hsv⟩ : ∃ sv, 2 ^ k * b = sv := ⟨_, rfl⟩
          obtain ⟨nv, hnv⟩ : ∃ nv, x + sv = nv := ⟨_, rfl⟩
          rw [hsv] at hor hset
          rw [hnv] at hor hset
          have hp26 : 2 ^ k ≤ 2 ^ 26 := Nat.pow_le_pow_right (by decide) (by omega)
          have hsv26 : sv ≤ 67108864 := by rw [← hsv]; exact Nat.le_trans (Nat.mul_le_mul hp26 (show b ≤ 1 by omega)) (by decide)
          have hshl : (b : Int) * 2 ^ k = (sv : Int) := by rw [← hsv]; simp [Int.mul_comm]
          have hwr : IntKind.u64.wrap (sv : Int) = (sv : Int) := IntWalk.u64_in _ (by omega)
          have hq2 := (hQ.set_ i nv)
          rw [hset] at hq2
          have HQ2 := Lib.hid hq2.drew
          have HG2 := Lib.hid (grown_drew (grown_set hgq i (.int .u64 (nv : Int))))
          clear hm hy hbt hx hget hset hbe hAr hj8 he8 hsv hnv hq2 hQ hgq
          go_upto_region 10 with (fail)
          go_region
          clear hor hand hshl hwr d8 r8 q0 q1 f0 hmi hxl
          generalize World.drew _ = W9 at *
          go_wp2
          go_roundw
          case rel => exact ⟨k + 1, by omega, by go_num, HQ2.out, HG2.out⟩
          case measure => simp [intOf]; omega
        · obtain rfl : k = 26 := by omega
          rw [show ((26 : Nat) : Int) = 26 from rfl]
          rw [ldL_next V i hlt] at hQ
          have HQ := Lib.hid hQ
          have HGq := Lib.hid hgq
          clear hQ hgq HX HG
          go_wp2
          go_roundw
          case rel => exact ⟨i + 1, by omega, by go_num, HQ.out, HGq.out⟩
          case measure => simp [intOf]; omega
    · obtain rfl : i = 5 := by omega
      rw [show ((5 : Nat) : Int) = 5 from rfl]
      obtain ⟨T, hT⟩ : ∃ T, ldL V 5 0 = T := ⟨_, rfl⟩
      have hTl : T.length = 5 := by rw [← hT]; exact ldL_len _ _ _
      rw [hT] at hX
      have HT : EN (ldL V 5 0) T := ⟨hT⟩
      have hr := hX.rng
      have hR5 := HR.out.grown hg (by simp)
      have hT5 : (Try.prog.info? 52).map (·.size) = some (T.map UV).length := by rw [List.length_map, hTl]; exact iL
      have H5 := Lib.hid hT5
      have hi2 := Lib.hid (show (Try.prog.info? 52).map (·.size) = some (T.map UV).toArray.size by rw [List.size_toArray]; exact hT5)
      have hb8 := HB.out.grown hg HB.out.size (fun k hk => by cases hk; omega)
      have HB8 := Lib.hid hb8
      clear hT hX hg hT5 hb8
      go_wp2_with (first
        | (refine wpList_load_mid rfl _ _ rfl _ _ rfl (T.map UV) _ hr Try.underlying52 rfl H5.out ?_)
        | (refine L_storeL rfl _ _ _ rfl T rfl rfl hR5 iL (by simp) hTl ?_; intro w9 hO9 hg9))
      refine bodyPost_ret_by (results_cell_row rfl _ _ _ _ _ _ _ rfl hO9 Try.underlying52 rfl hi2.out) rfl ⟨by rw [HT.h], ?_⟩
      exact HB8.out.grown hg9 HB8.out.size (fun k hk => by cases hk; omega)
end Go.Proofs.Ytlncnjcbgfeaoaa
