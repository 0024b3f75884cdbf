/- pipe: of, make. -/
import Derived.Test.YteekafpkbdbadaaOD
set_option maxRecDepth 100000
set_option linter.unusedVariables false
namespace Go.Proofs.Yteekafpkbdbadaa.Pi
open Go.RowKit
def od (id : Nat) : Bool := decide (id % 2 = 1)
def wy (id : Nat) : Bool := decide (id / 2 % 2 = 1)
theorem and_1 (x : Nat) : x &&& 1 = x % 2 := Nat.and_one_is_mod x
theorem and_2 (x : Nat) : x &&& 2 = 2 * (x / 2 % 2) := by
  apply Nat.eq_of_testBit_eq
  intro i
  rw [Nat.testBit_and]
  rcases i with _ | _ | i
  · simp [Nat.testBit_zero]
  · simp [Nat.testBit_succ, Nat.testBit_zero]
  · have : Nat.testBit 2 (i + 2) = false := by simp [Nat.testBit_succ]
    rw [this, Bool.and_false]
    simp [Nat.testBit_succ]
theorem iKey : (Try.prog.info? 66).map (·.size) = some 2 := by kernel_rfl
theorem of_any (w : World) (id : Nat) (hid : id < 18446744073709551616) : Calls Try.prog 40 #[.int .u64 (id : Int)] w fun e w' => e = .returned (.agg #[.bool (od id), .bool (wy id)]) ∧ Below w.heap.size w w' := by
  have h1 := u64_and_nat id 1 hid (by decide)
  have h2 := u64_and_nat id 2 hid (by decide)
  rw [and_1] at h1
  rw [and_2] at h2
  obtain ⟨A1, hA1⟩ : ∃ A1, id % 2 = A1 := ⟨_, rfl⟩
  obtain ⟨A2, hA2⟩ : ∃ A2, 2 * (id / 2 % 2) = A2 := ⟨_, rfl⟩
  have q1 : ((A1 : Int) != 0) = od id := by
    unfold od; rw [hA1]
    by_cases h : A1 = 1
    · subst h; rfl
    · have : A1 = 0 := by omega
      subst this; rfl
  have q2 : ((A2 : Int) != 0) = wy id := by
    unfold wy
    by_cases h : id / 2 % 2 = 1
    · have : A2 = 2 := by omega
      subst this; simp [h]
    · have : A2 = 0 := by omega
      subst this; simp [h]
  rw [hA1] at h1
  rw [hA2] at h2
  obtain ⟨o1, ho1⟩ : ∃ o1, od id = o1 := ⟨_, rfl⟩
  obtain ⟨o2, ho2⟩ : ∃ o2, wy id = o2 := ⟨_, rfl⟩
  rw [ho1] at q1 ⊢
  rw [ho2] at q2 ⊢
  have h1' : bits .and .u64 (id : Int) 1 = (A1 : Int) := h1
  have h2' : bits .and .u64 (id : Int) 2 = (A2 : Int) := h2
  have hr := CR.new w 66 [.bool false, .bool false]
  have HB := Lib.hid (below_alloc w (.cells [.bool false, .bool false].toArray 66))
  obtain ⟨k, hk⟩ : ∃ k, w.heap.size = k := ⟨_, rfl⟩
  rw [hk] at hr
  have HR := Lib.hid hr
  have HK := Lib.hid hk
  clear hr hA1 hA2 h1 h2 hid ho1 ho2
  go_enter Try.func40, Try.ntmps40
  go_wp2_with (refine L_storeRow (old := [.bool false, .bool false]) (new := [.bool o1, .bool o2]) rfl 66 _ _ rfl rfl rfl HR.out iKey rfl rfl (by simp [Value.oneCell']) ?_; intro w2 hz hg)
  refine bodyPost_ret_by (results_cell_row rfl _ _ _ _ _ _ _ rfl hz Try.underlying66 rfl iKey) rfl ?_
  exact ⟨rfl, HB.out.grown hg HB.out.size (fun j hj => by cases hj; rw [HK.out]; exact Nat.le_refl _)⟩
theorem spanNew_0 (w : World) : Calls Try.prog 41 #[.slice none 0 0] w fun e w' => e = .returned (ptr w.heap.size) ∧ CR w' w.heap.size 118 [SA0.v] ∧ Below w.heap.size w w' := by
  have HR := Lib.hid (CR.new w 118 [SA0.v])
  have HB := Lib.hid (below_alloc w (.cells [SA0.v].toArray 118))
  unfold SA0 SA.v at HR HB
  go_enter Try.func41, Try.ntmps41
  go_upto_region 3 with (fail)
  refine wp_loop_rounds 1 ?_
  rw [rounds_succ]
  go_wp2
  go_ret
  exact ⟨rfl, HR.out, HB.out⟩
theorem quiltNew_any (w : World) : Calls Try.prog 42 #[] w fun e w' => e = .returned (ptr w.heap.size) ∧ CR w' w.heap.size 111 [SA0.v, u64 0, u64 0, u64 0, .bool false] ∧ Below w.heap.size w w' := by
  have HR := Lib.hid (CR.new w 111 [SA0.v, u64 0, u64 0, u64 0, .bool false])
  have HB := Lib.hid (below_alloc w (.cells [SA0.v, u64 0, u64 0, u64 0, .bool false].toArray 111))
  go_enter Try.func42, Try.ntmps42
  go_wp2
  go_ret
  exact ⟨rfl, HR.out, HB.out⟩
end Go.Proofs.Yteekafpkbdbadaa.Pi
