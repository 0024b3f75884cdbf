/- Plain: long packets one behind the other. -/
import Derived.Test.YtdfachjgnhljfaaDoorP3
namespace Go.Proofs.YtdfachjgnhljfaaDoor
structure Pk where
  lv : Nat
  t : List UInt8
  f : List UInt8
  left : Nat
structure Pk.Ok (k : Pk) : Prop where
  lv : k.lv ≤ 1
  t : k.t.length ≤ 20
  f : k.f.length ≤ 20
  lo : 16 ≤ k.left
  hi : k.left ≤ 271
def Pk.bytes (k : Pk) : List UInt8 := bytesLong k.lv k.t k.f 4 k.left 7 ++ List.replicate k.left 0
theorem Pk.len (k : Pk) : k.bytes.length = lenL k.lv k.t k.f + 4 + k.left := by
  unfold Pk.bytes; rw [List.length_append, bytesLong_len, List.length_replicate]
theorem Pk.len_le (k : Pk) (h : k.Ok) : k.bytes.length ≤ 325 := by
  have h1 := h.t; have h2 := h.f; have h3 := h.hi
  have : lenL k.lv k.t k.f ≤ 50 := by unfold lenL; split <;> omega
  rw [Pk.len]; omega
def flat (ks : List Pk) : List UInt8 := (ks.map Pk.bytes).flatten
def flatL (ks : List Pk) (j : Nat) : Nat := (flat (ks.take j)).length
def ends (ks : List Pk) : List Nat := (List.range ks.length).map fun j => flatL ks (j + 1)
theorem flat_snoc (ks : List Pk) (k : Pk) : flat (ks ++ [k]) = flat ks ++ k.bytes := by simp [flat]
theorem flatL_zero (ks : List Pk) : flatL ks 0 = 0 := by simp [flatL, flat]
theorem flatL_all (ks : List Pk) (j : Nat) (h : ks.length ≤ j) : flatL ks j = (flat ks).length := by unfold flatL; rw [List.take_of_length_le h]
theorem flatL_succ (ks : List Pk) (j : Nat) (k : Pk) (h : ks[j]? = some k) : flatL ks (j + 1) = flatL ks j + k.bytes.length := by
  unfold flatL
  rw [List.take_add_one, h]
  show (flat (ks.take j ++ [k])).length = _
  rw [flat_snoc, List.length_append]
theorem flat_drop (ks : List Pk) (j : Nat) : (flat ks).drop (flatL ks j) = flat (ks.drop j) := by
  have e : flat ks = flat (ks.take j) ++ flat (ks.drop j) := by
    unfold flat; rw [← List.flatten_append, ← List.map_append, List.take_append_drop]
  unfold flatL
  conv => lhs; rw [e]
  rw [List.drop_left]
theorem ends_snoc (ks : List Pk) (k : Pk) : ends (ks ++ [k]) = ends ks ++ [(flat ks).length + k.bytes.length] := by
  unfold ends
  rw [List.length_append, List.length_singleton, List.range_succ, List.map_append]
  congr 1
  · apply List.map_congr_left
    intro j hj
    have := List.mem_range.1 hj
    unfold flatL
    rw [List.take_append_of_le_length (by omega)]
  · simp only [List.map_cons, List.map_nil]
    rw [flatL_all _ _ (by simp), flat_snoc, List.length_append]
theorem ends_len (ks : List Pk) : (ends ks).length = ks.length := by simp [ends]
theorem ends_get (ks : List Pk) (j : Nat) (h : j < ks.length) : (ends ks)[j]? = some (flatL ks (j + 1)) := by
  unfold ends; rw [List.getElem?_map, List.getElem?_range h]; rfl
theorem flat_le (ks : List Pk) (h : ∀ k ∈ ks, k.Ok) : (flat ks).length ≤ 325 * ks.length := by
  induction ks with
  | nil => simp [flat]
  | cons k r ih =>
    have e : flat (k :: r) = k.bytes ++ flat r := by simp [flat]
    have h1 := k.len_le (h k (by simp))
    have h2 := ih fun x hx => h x (by simp [hx])
    rw [e, List.length_append, List.length_cons]; omega
theorem flatL_le (ks : List Pk) (j : Nat) : flatL ks j ≤ (flat ks).length := by
  have e : flat ks = flat (ks.take j) ++ flat (ks.drop j) := by
    unfold flat; rw [← List.flatten_append, ← List.map_append, List.take_append_drop]
  rw [e, List.length_append]; unfold flatL; omega
/-- each ends where the next one begins -/
theorem readS_flat (ks : List Pk) (h : ∀ k ∈ ks, k.Ok) (j : Nat) (k : Pk) (hj : ks[j]? = some k) :
    readS ((flat ks).drop (flatL ks j)) = (0, ⟨true, k.lv, k.t, k.f⟩, lenL k.lv k.t k.f, k.bytes.length) := by
  obtain ⟨hjl, hk⟩ := List.getElem?_eq_some_iff.1 hj
  have ok := h k (by rw [← hk]; exact List.getElem_mem _)
  have h1 := ok.lv; have h2 := ok.t; have h3 := ok.f; have h4 := ok.lo; have h5 := ok.hi
  rw [flat_drop, List.drop_eq_getElem_cons hjl, hk]
  have e : flat (k :: ks.drop (j + 1)) = hdrL k.lv k.t k.f 4 (4 + k.left) ++ (beB 4 7 ++ (List.replicate k.left 0 ++ flat (ks.drop (j + 1)))) := by
    have : flat (k :: ks.drop (j + 1)) = k.bytes ++ flat (ks.drop (j + 1)) := by simp [flat]
    rw [this, Pk.bytes, bytesLong_eq]; simp
  have hr := readS_long k.lv h1 k.t k.f (beB 4 7 ++ (List.replicate k.left 0 ++ flat (ks.drop (j + 1)))) 4 (4 + k.left) (lenL k.lv k.t k.f + (beB 4 7 ++ (List.replicate k.left 0 ++ flat (ks.drop (j + 1)))).length) (by omega) (by omega) h2 h3 (by omega) (by omega)
    (by rw [List.length_append, List.length_append, beB_len, List.length_replicate]; omega) (Nat.le_refl _)
  rw [List.take_of_length_le (by rw [List.length_append, hdrL_len]; exact Nat.le_refl _), if_neg (by rw [List.length_append, List.length_append, beB_len, List.length_replicate]; omega)] at hr
  rw [e, hr, Pk.len, Nat.add_assoc]
end Go.Proofs.YtdfachjgnhljfaaDoor
