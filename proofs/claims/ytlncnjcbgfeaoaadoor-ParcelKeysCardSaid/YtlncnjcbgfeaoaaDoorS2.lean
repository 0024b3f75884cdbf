/- ref02.primes: the first primes. -/
import Derived.Test.YtlncnjcbgfeaoaaDoorR2
import Derived.Test.YtlncnjcbgfeaoaaDoorP7
set_option maxRecDepth 100000
set_option linter.unusedVariables false
namespace Go.Proofs.YtlncnjcbgfeaoaaDoor
open Go.RowKit
/-- the primes below k, as the program finds them -/
def prAcc : Nat → List Nat
  | 0 => []
  | k + 1 => if 2 ≤ k ∧ (prAcc k).all (fun p => k % p != 0) then prAcc k ++ [k] else prAcc k
theorem prAcc_pre (k : Nat) : prAcc k <+: prAcc (k + 1) := by
  show prAcc k <+: (if _ then _ else _)
  split
  · exact List.prefix_append _ _
  · exact List.prefix_refl _
theorem prAcc_mono (k m : Nat) (h : k ≤ m) : prAcc k <+: prAcc m := by
  induction m with
  | zero => obtain rfl : k = 0 := by omega
            exact List.prefix_refl _
  | succ m ih =>
    rcases Nat.lt_or_ge k (m + 1) with hlt | hge
    · exact (ih (by omega)).trans (prAcc_pre m)
    · obtain rfl : k = m + 1 := by omega
      exact List.prefix_refl _
theorem prAcc_two (k : Nat) : ∀ p ∈ prAcc k, 2 ≤ p ∧ p < k := by
  induction k with
  | zero => intro p h; simp [prAcc] at h
  | succ k ih =>
    intro p h
    unfold prAcc at h
    split at h
    · next hc =>
      rcases List.mem_append.1 h with h | h
      · have := ih p h; omega
      · rw [List.mem_singleton.1 h]; omega
    · have := ih p h; omega
theorem prAcc_312 : (prAcc 312).length = 64 := by decide +kernel
theorem primes_64 : (prAcc 312).take 64 = primesS 64 := by decide +kernel
theorem primes_8 : (prAcc 312).take 8 = primesS 8 := by decide +kernel
theorem prAcc_short (k n : Nat) (hn : n ≤ 64) (h : (prAcc k).length < n) : k < 312 := by
  rcases Nat.lt_or_ge k 312 with hk | hk
  · exact hk
  · have := (prAcc_mono 312 k hk).length_le
    rw [prAcc_312] at this; omega
theorem prAcc_done (k n : Nat) (hk : k ≤ 312) (h : (prAcc k).length = n) : prAcc k = (prAcc 312).take n := by
  obtain ⟨r, hr⟩ := prAcc_mono k 312 hk
  rw [← hr, ← h, List.take_left]
def UL (x : Nat) : Value := .int .u64 (x : Int)
theorem one_UL (xs : List Nat) : ∀ v ∈ xs.map UL, v.oneCell' = true := by
  intro v hv; obtain ⟨x, _, rfl⟩ := List.mem_map.1 hv; rfl
theorem tL : STy Tryd.prog 101 41 (.int .u64 0) 1 8 := ⟨Tryd.underlying101, by kernel_rfl, rfl, by decide⟩
set_option maxHeartbeats 2000000 in
theorem primes_any (n : Nat) (hn : n ≤ 64) (w : World) : Calls Tryd.prog 67 #[.int .i64 (n : Int)] w fun e w' => ∃ a c, e = .returned (.slice a n c) ∧ OW w' w.heap.size 41 1 a n c (((prAcc 312).take n).map UL) ∧ Below w.heap.size w w' := by
  go_enter Tryd.func67, Tryd.ntmps67
  go_wp2
  go_loopw [3, 4] (fun s3 s4 wr => ∃ (k L : Nat) (a : Option Addr) (c : Nat), 2 ≤ k ∧ k ≤ 312 ∧ L ≤ n ∧ (prAcc k).length = L ∧ s4 = .int .u64 (k : Int) ∧ s3 = .slice a L c ∧ OW wr w.heap.size 41 1 a L c ((prAcc k).map UL) ∧ Below w.heap.size w wr) (fun _ s4 _ => 312 - (intOf s4).toNat)
  case atStart => exact ⟨2, 0, none, 0, by omega, by omega, by omega, rfl, rfl, rfl, OW_nil _ _ _ _, Below.refl _ _⟩
  case round =>
    obtain ⟨k, L, a, c, hk2, hk, hL, hlen, rfl, rfl, ho, hb⟩ := hrel
    by_cases hlt : L < n
    · have hk312 := prAcc_short k n hn (by omega)
      have hr := ho.rs
      have hsz := hb.size
      have Ho := Lib.hid ho
      have Hb := Lib.hid hb
      have Hlen := Lib.hid hlen
      obtain ⟨W3, rfl⟩ : ∃ W3, W3 = wr := ⟨wr, rfl⟩
      clear ho hb hlen
      go_wp2
      go_loopw [5, 16] (fun s5 s16 wr => ∃ j : Nat, j ≤ L ∧ s16 = .int .i64 (j : Int) ∧ s5 = .bool (((prAcc k).take j).all fun p => k % p != 0) ∧ wr = W3) (fun _ s16 _ => L - (intOf s16).toNat)
      case atStart => exact ⟨0, by omega, rfl, rfl, rfl⟩
      case round =>
        obtain ⟨j, hj, rfl, rfl, rfl⟩ := hrel
        by_cases hjl : j < L
        · obtain ⟨p, hp⟩ : ∃ p, (prAcc k)[j]? = some p := ⟨_, List.getElem?_eq_getElem (by rw [Hlen.out]; exact hjl)⟩
          have hp2 := (prAcc_two k p (List.mem_of_getElem? hp)).1
          have hall : ((prAcc k).take (j + 1)).all (fun p => k % p != 0) = (((prAcc k).take j).all (fun p => k % p != 0) && (k % p != 0)) := by
            rw [List.take_add_one, hp]; simp
          have Hall := Lib.hid hall
          have hc : ((prAcc k).map UL)[j]? = some (.int .u64 (p : Int)) := by rw [List.getElem?_map, hp]; rfl
          have Hc := Lib.hid hc
          obtain ⟨t, ht⟩ : ∃ t, ((prAcc k).take j).all (fun p => k % p != 0) = t := ⟨_, rfl⟩
          rw [ht] at Hall ⊢
          clear hp hall hc ht
          cases t with
          | false =>
            go_wp2_with (refine L_index tL hr _ _ rfl rfl _ _ rfl rfl (by omega) (by omega) _ (by simpa using Hc.out) ?_; intro q hq)
            exact ⟨⟨j + 1, by omega, by go_num, by rw [Hall.out]; rfl, trivial⟩, by simp [intOf]; omega⟩
          | true =>
            obtain ⟨m, hm⟩ : ∃ m, k % p = m := ⟨_, rfl⟩
            have hmod : ((k : Int) % (p : Int)) = (m : Int) := by rw [← hm]; exact (Int.natCast_emod k p).symm
            rw [hm] at Hall
            clear hm
            cases m with
            | zero =>
              rw [show ((0 : Nat) : Int) = 0 from rfl] at hmod
              go_wp2_with (refine L_index tL hr _ _ rfl rfl _ _ rfl rfl (by omega) (by omega) _ (by simpa using Hc.out) ?_; intro q hq)
              exact ⟨⟨j + 1, by omega, by go_num, by rw [Hall.out]; rfl, trivial⟩, by simp [intOf]; omega⟩
            | succ m =>
              have hne : ¬ (((m + 1 : Nat) : Int) = 0) := by omega
              go_wp2_with (refine L_index tL hr _ _ rfl rfl _ _ rfl rfl (by omega) (by omega) _ (by simpa using Hc.out) ?_; intro q hq)
              exact ⟨⟨j + 1, by omega, by go_num, by rw [Hall.out]; rfl, trivial⟩, by simp [intOf]; omega⟩
        · obtain rfl : j = L := by omega
          rw [List.take_of_length_le (by rw [Hlen.out]; omega)]
          have hstep : prAcc (k + 1) = if ((prAcc k).all fun p => k % p != 0) = true then prAcc k ++ [k] else prAcc k := by
            show (if 2 ≤ k ∧ ((prAcc k).all fun p => k % p != 0) = true then _ else _) = _
            simp only [hk2, true_and]
          have Hstep := Lib.hid hstep
          clear hstep
          cases hf : ((prAcc k).all fun p => k % p != 0) with
          | false =>
            have h2 : prAcc (k + 1) = prAcc k := by rw [Hstep.out, hf, if_neg (by decide)]
            have H2 := Lib.hid h2
            clear h2 hf
            go_wp2
            go_roundw
            case rel => exact ⟨k + 1, j, a, c, by omega, by omega, by omega, by rw [H2.out]; exact Hlen.out, by go_num, rfl, by rw [H2.out]; exact Ho.out, Hb.out⟩
            case measure => simp [intOf]; omega
          | true =>
            have h2 : prAcc (k + 1) = prAcc k ++ [k] := by rw [Hstep.out, hf, if_pos rfl]
            have H2 := Lib.hid h2
            have h3 : (prAcc k).map UL ++ [.int .u64 (k : Int)] = (prAcc (k + 1)).map UL := by rw [h2, List.map_append]; rfl
            have H3 := Lib.hid h3
            clear h2 hf h3
            go_wp2_with (at_builtin; refine L_append tL (Ho.out.alloc _) (RS_one _ _ _ rfl) _ _ rfl rfl rfl rfl (by omega) (by unfold maxLen; omega) (by simp; omega) ?_; intro a5 c5 w5 o5 g5; have hb5 : Below w.heap.size w w5 := (Hb.out.alloc hsz _).grown g5 (by simp; omega) (fun q hq => by obtain ⟨ad, h1, h2⟩ := Option.map_eq_some_iff.1 hq; have := (Ho.out.base_le h1).1; omega); rw [H3.out] at o5)
            go_roundw
            case rel => exact ⟨k + 1, j + 1, a5, c5, by omega, by omega, by omega, by rw [H2.out, List.length_append, Hlen.out]; rfl, by go_num, rfl, o5, hb5⟩
            case measure => simp [intOf]; omega
    · obtain rfl : L = n := by omega
      rw [prAcc_done k L hk hlen] at ho
      have Ho := Lib.hid ho
      have Hb := Lib.hid hb
      clear ho hb hlen
      go_wp2
      go_ret
      exact ⟨a, c, rfl, Ho.out, Hb.out⟩
end Go.Proofs.YtlncnjcbgfeaoaaDoor
