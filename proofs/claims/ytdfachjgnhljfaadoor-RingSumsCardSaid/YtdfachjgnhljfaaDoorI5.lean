/- A slice of slices of bytes that came in. -/
import Derived.Test.YtdfachjgnhljfaaDoorI1
import Derived.Deep.Slices
set_option maxRecDepth 100000
set_option linter.unusedVariables false
namespace Go.Proofs.YtdfachjgnhljfaaDoor
open Go.ChangeShapes Go.WideShapes Go.ChangeAt Go.RowKit Go.Deep
theorem cell_spot {W : World} {ad : Addr} {v : Value} (h : W.cell? ad = some v) : ad.spot = none := by
  unfold World.cell? at h
  split at h
  · split at h
    · cases h
    · next h1 => simpa using h1
  · cases h
theorem bytes_open {H : Type} {enc : TypeId × Value → H} {W : World} {cs : List Value} {x : DataW H × List MemPlace} {fuel : Nat}
    (hf : DataW.trod enc Tryd.prog W 0 (fun _ => true) true fuel 22 cs = some x) : ∃ a n c, cs = [.slice a n c] := by
  rcases open_ints Tryd.underlying22 Tryd.underlying5 (by kernel_rfl) hf with ⟨hcs, _⟩ | ⟨y, l, cc, zs, hcs, _⟩
  · exact ⟨_, _, _, hcs⟩
  · exact ⟨_, _, _, hcs⟩
theorem rows_in {H : Type} {enc : TypeId × Value → H} {W : World} {a : Option Addr} {n c : Nat} {x : DataW H × List MemPlace}
    (h : ∃ fuel, DataW.trod enc Tryd.prog W 0 (fun _ => true) true fuel 25 [.slice a n c] = some x) : ∃ ps, PS W a n c ps := by
  obtain ⟨fuel, hf⟩ := h
  have hc1 : Tryd.prog.cellsOf 22 = 1 := by kernel_rfl
  rcases open_slice Tryd.underlying25 hf with ⟨h0, _⟩ | ⟨ad, len, cap, m, k, D, Pl, hcs, hb, hl, hm, hmm, hx, hi⟩
  · simp at h0; obtain ⟨rfl, rfl, rfl⟩ := h0
    exact ⟨[], [], RS_nil _ _, rfl, fun i p hp => by cases hp⟩
  · simp at hcs
    obtain ⟨rfl, rfl, rfl⟩ := hcs
    simp only [if_true] at hmm
    have key : ∀ i : Nat, ∃ y : Value × List UInt8, i < n → W.cell? (ad.add (i * 1)) = some y.1 ∧ ∃ a' m' c', y.1 = .slice a' m' c' ∧ BS W a' m' c' y.2 := by
      intro i
      rcases Nat.lt_or_ge i n with hin | hin
      · obtain ⟨cs', hc, ht⟩ := hi i (by omega)
        rw [hc1] at hc
        obtain ⟨_, hcl, hat⟩ := World.cells?_some hc
        obtain ⟨a', m', c', rfl⟩ := bytes_open ht
        obtain ⟨xs, hxs⟩ := bytes_cell ⟨_, ht⟩
        exact ⟨(.slice a' m' c', xs), fun _ => ⟨hat 0 (by omega), a', m', c', rfl, hxs⟩⟩
      · exact ⟨(.slice none 0 0, []), fun h => by omega⟩
    obtain ⟨f, hf'⟩ := Classical.skolem.1 key
    refine ⟨(List.range n).map (fun i => (f i).2), (List.range n).map (fun i => (f i).1), ⟨by simp, by omega, by omega, ?_, (fun h => by cases h), ?_⟩, by simp, ?_⟩
    · intro v hv
      obtain ⟨i, hi', rfl⟩ := List.mem_map.1 hv
      obtain ⟨_, a', m', c', he, _⟩ := hf' i (List.mem_range.1 hi')
      rw [he]; rfl
    · intro ad' had
      cases had
      have hsp : 0 < c → ad.spot = none := fun h0 => by
        obtain ⟨cs', hc, ht⟩ := hi 0 (by omega)
        rw [hc1] at hc
        obtain ⟨_, hcl, hat⟩ := World.cells?_some hc
        have h1 := hat 0 (by omega)
        rw [show ((ad.add (0 * 1)).add 0) = ad from rfl, List.getElem?_eq_getElem (by omega)] at h1
        exact cell_spot h1
      refine ⟨hsp, fun j v hv => ?_⟩
      rw [List.getElem?_map] at hv
      obtain ⟨j', hj', rfl⟩ := Option.map_eq_some_iff.1 hv
      have hjn : j < n := by
        have := (List.getElem?_eq_some_iff.1 hj').1; simpa using this
      rw [List.getElem?_range hjn] at hj'
      cases hj'
      have h1 := (hf' j hjn).1
      rw [Nat.mul_one, add_plain (hsp (by omega))] at h1
      exact h1
    · intro i p hp
      rw [List.getElem?_map] at hp
      obtain ⟨i', hi', rfl⟩ := Option.map_eq_some_iff.1 hp
      have hin : i < n := by
        have := (List.getElem?_eq_some_iff.1 hi').1; simpa using this
      rw [List.getElem?_range hin] at hi'
      cases hi'
      obtain ⟨_, a', m', c', he, hb'⟩ := hf' i hin
      exact ⟨a', m', c', by rw [List.getElem?_map, List.getElem?_range hin, Option.map_some, he], hb'⟩
end Go.Proofs.YtdfachjgnhljfaaDoor
