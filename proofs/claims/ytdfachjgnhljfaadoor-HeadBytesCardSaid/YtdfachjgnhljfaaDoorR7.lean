/- head's reader: num: what it hands back. -/
import Derived.Test.YtdfachjgnhljfaaDoorR6
set_option maxRecDepth 100000
namespace Go.Proofs.YtdfachjgnhljfaaDoor
open Go.RowKit
def NumPost (w : World) (r : Nat) (a : Option Addr) (n c at_ : Nat) (xs : List UInt8) (e : Ending) (w' : World) : Prop :=
  match takeS (xs.drop at_) with
  | none => e = .returned (.tuple #[.int .u64 0, .int .i64 2]) ∧ w.grownBy w' (some r)
  | some (v, ys) => e = .returned (.tuple #[.int .u64 (v : Int), .int .i64 0]) ∧ w.grownBy w' (some r) ∧ RD w' r a n c (n - ys.length)
theorem takeS_len {p : List UInt8} {v : Nat} {ys : List UInt8} (h : takeS p = some (v, ys)) : ys.length ≤ p.length := by
  cases p with
  | nil => cases h
  | cons b bs =>
    rw [takeS_cons] at h
    split at h
    · cases h
    · simp only [Option.some.injEq, Prod.mk.injEq] at h
      rw [← h.2, List.length_drop]; exact Nat.sub_le _ _
theorem num_none (w : World) {r : Nat} {a : Option Addr} {n c at_ : Nat} {xs : List UInt8} (h : RD w r a n c at_) (hx : BS w a n c xs) (hat : at_ ≤ n) (hn : n ≤ 140737488355328) (ht : takeS (xs.drop at_) = none) :
    Calls Tryd.prog 62 #[.pointer (some ⟨r, 0, none⟩)] w (NumPost w r a n c at_ xs) := by
  have hl := hx.len
  have h0 := h.c0
  have h1 := h.c1
  have hxc : BS w.drew (if c = at_ then a else Option.map (fun x => x.add at_) a) (n - at_) (c - at_) (xs.drop at_) := by
    have h2 := RS.cut (w := w.drew) hx at_ n c hat (Nat.le_refl _) hx.le (Nat.le_refl _)
    simp only [Nat.mul_one] at h2
    rw [List.take_of_length_le (by rw [List.length_drop, List.length_map]; omega), ← List.map_drop] at h2
    exact h2
  have hlt := h.lt
  obtain ⟨A, hA⟩ : ∃ A, (if c = at_ then a else Option.map (fun x => x.add at_) a) = A := ⟨_, rfl⟩
  rw [hA] at hxc
  have hp : ∀ w1 a1, BS w1 a1 (n - at_) (c - at_) (xs.drop at_) → Calls Tryd.prog 66 #[.slice a1 (n - at_) (c - at_)] w1 (TakePost w1 (xs.drop at_)) := fun w1 a1 h => takep_any w1 _ h (by omega)
  have hp2 : ∀ w1 a1, BS w1 a1 (n - at_) (c - at_) (xs.drop at_) → Calls Tryd.prog 66 #[.slice a1 (n - at_) (c - at_)] w1 fun e w' => e = .returned (.tuple #[.int .u64 0, .slice none 0 0, .int .i64 2]) ∧ Below w1.heap.size w1 w' := by
    intro w1 a1 h
    refine (hp w1 a1 h).mono fun e w' h => ?_
    unfold TakePost at h; rw [ht] at h; exact h
  have T := Lib.hid (hp2 w.drew _ hxc)
  have Ht := Lib.hid ht
  clear hp hp2 ht hl hxc
  go_enter Tryd.func62, Tryd.ntmps62
  go_wp2_with fail
  go_region_with (go_at_call 66; clear hA; refine T.out.mono ?_; rintro e w1 ⟨rfl, h2⟩)
  all_goals
    go_wp2_with fail
    go_ret2
    unfold NumPost
    rw [Ht.out]
    exact ⟨rfl, grown_of_below (below_undrew h2)⟩
theorem num_some (w : World) {r : Nat} {a : Option Addr} {n c at_ : Nat} {xs : List UInt8} (h : RD w r a n c at_) (hx : BS w a n c xs) (hat : at_ ≤ n) (hn : n ≤ 140737488355328) (v : Nat) (ys : List UInt8) (ht : takeS (xs.drop at_) = some (v, ys)) :
    Calls Tryd.prog 62 #[.pointer (some ⟨r, 0, none⟩)] w (NumPost w r a n c at_ xs) := by
  have hl := hx.len
  have h0 := h.c0
  have h1 := h.c1
  have hxc : BS w.drew (if c = at_ then a else Option.map (fun x => x.add at_) a) (n - at_) (c - at_) (xs.drop at_) := by
    have h2 := RS.cut (w := w.drew) hx at_ n c hat (Nat.le_refl _) hx.le (Nat.le_refl _)
    simp only [Nat.mul_one] at h2
    rw [List.take_of_length_le (by rw [List.length_drop, List.length_map]; omega), ← List.map_drop] at h2
    exact h2
  have hlt := h.lt
  obtain ⟨A, hA⟩ : ∃ A, (if c = at_ then a else Option.map (fun x => x.add at_) a) = A := ⟨_, rfl⟩
  rw [hA] at hxc
  have hp : ∀ w1 a1, BS w1 a1 (n - at_) (c - at_) (xs.drop at_) → Calls Tryd.prog 66 #[.slice a1 (n - at_) (c - at_)] w1 (TakePost w1 (xs.drop at_)) := fun w1 a1 h => takep_any w1 _ h (by omega)
  have hyl := takeS_len ht
  rw [List.length_drop, hl] at hyl
  obtain ⟨m, hm⟩ : ∃ m, m = ys.length := ⟨_, rfl⟩
  rw [← hm] at hyl
  have hp2 : ∀ w1 a1, BS w1 a1 (n - at_) (c - at_) (xs.drop at_) → Calls Tryd.prog 66 #[.slice a1 (n - at_) (c - at_)] w1 fun e w' => ∃ a' c', e = .returned (.tuple #[.int .u64 (v : Int), .slice a' m c', .int .i64 0]) ∧ Below w1.heap.size w1 w' := by
    intro w1 a1 h
    refine (hp w1 a1 h).mono fun e w' h => ?_
    unfold TakePost at h; rw [ht] at h
    obtain ⟨a', c', h1, h2, h3⟩ := h
    exact ⟨a', c', by rw [hm]; exact h1, h3⟩
  have T := Lib.hid (hp2 w.drew _ hxc)
  have Ht := Lib.hid ht
  have Hm := Lib.hid hm
  clear hp hp2 ht hl hm hxc
  go_enter Tryd.func62, Tryd.ntmps62
  go_wp2_with fail
  go_region_with (go_at_call 66; clear hA; refine T.out.mono ?_; rintro e w1 ⟨a2, c2, rfl, h2⟩; have hR := RD.below (w := w.drew) h h2; have g0 := hR.c0; have g1 := hR.c1; have g2 := hR.fr 1)
  all_goals
    go_wp2_with fail
    go_ret2
    unfold NumPost
    rw [Ht.out]
    have hG : w.grownBy w1 (some r) := grown_of_below (below_undrew h2)
    refine ⟨rfl, grown_trans hG (grownBy_setCell w1 ⟨r, 1, none⟩ _), ?_⟩
    have := hR.set (n - m)
    rw [Hm.out] at this
    rw [show ((n : Int) - (m : Int)) = ((n - ys.length : Nat) : Int) by rw [← Hm.out]; omega]
    exact this
theorem num_any (w : World) {r : Nat} {a : Option Addr} {n c at_ : Nat} {xs : List UInt8} (h : RD w r a n c at_) (hx : BS w a n c xs) (hat : at_ ≤ n) (hn : n ≤ 140737488355328) :
    Calls Tryd.prog 62 #[.pointer (some ⟨r, 0, none⟩)] w (NumPost w r a n c at_ xs) := by
  cases ht : takeS (xs.drop at_) with
  | none => exact num_none w h hx hat hn ht
  | some vy => exact num_some w h hx hat hn vy.1 vy.2 ht
end Go.Proofs.YtdfachjgnhljfaaDoor
