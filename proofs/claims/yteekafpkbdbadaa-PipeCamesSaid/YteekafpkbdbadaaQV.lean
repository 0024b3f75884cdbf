/- pipe: how bytes come in; what the shells take. -/
import Derived.Test.YteekafpkbdbadaaQU
import Derived.Test.YteekafpkbdbadaaRows
import Derived.Test.YteekafpkbdbadaaChecked
import Derived.ProofKit
import Derived.OpenShut
import Derived.ShutString
import Derived.ChangeOld
import Derived.Below
import Derived.Deep.DeepHandedRow
import Derived.WideKeyArr2
set_option maxRecDepth 100000
set_option linter.unusedVariables false
namespace Go.Proofs.Yteekafpkbdbadaa
open Go.ChangeShapes Go.WideShapes Go.ChangeAt Go.RowKit
theorem own : ownKnob Try.prog.godebug = none := by kernel_rfl
theorem laidOut : laidOutB Try.prog = true := by kernel_rfl
theorem spot_of {P : Program} {W : World} {base : Nat} {t e : TypeId} {x : Addr} {l c : Nat} (hu : P.underlying t = some (.slice e)) (h : Value.okWide P W .any base t (.slice (some x) l c)) : x.spot = none := by
  simp only [Value.okWide, hu, Cell.okWide, Cell.ok, World.has] at h
  exact h.2.2.2.1
/-- a slice of bytes that came in reads as bytes -/
theorem bytes_cell {H : Type} {enc : TypeId × Value → H} {W : World} {a : Option Addr} {n c : Nat} {x : DataW H × List MemPlace}
    (h : ∃ fuel, DataW.trod enc Try.prog W 0 (fun _ => true) true fuel 34 [.slice a n c] = some x) : ∃ xs : List UInt8, BS W a n c xs := by
  obtain ⟨fuel, hf⟩ := h
  rcases open_ints Try.underlying34 Try.underlying5 (by kernel_rfl) hf with ⟨hcs, _⟩ | ⟨y, l, cc, zs, hcs, _, hl, hm, hz, _, hcell, hwz⟩
  · simp at hcs
    obtain ⟨rfl, rfl, rfl⟩ := hcs
    exact ⟨[], RS_nil _ _⟩
  · simp at hcs
    obtain ⟨rfl, rfl, rfl⟩ := hcs
    simp only [if_true] at hz
    have hsp : 0 < c → y.spot = none := fun h0 => by
      have hc := hcell 0 (by omega)
      rw [show y.add 0 = y from rfl] at hc
      unfold World.cell? at hc
      split at hc
      · split at hc
        · cases hc
        · next h1 => simpa using h1
      · cases hc
    refine ⟨(zs.take n).map (fun z => UInt8.ofNat z.toNat), ?_, hl, hm, one_B _, (fun h => by cases h), fun ad had => ?_⟩
    · simp [List.length_take]; omega
    · cases had
      refine ⟨hsp, fun j v hv => ?_⟩
      rw [List.getElem?_map, List.getElem?_map] at hv
      have hj : j < n := by
        rcases Nat.lt_or_ge j n with h | h
        · exact h
        · rw [List.getElem?_eq_none (by rw [List.length_take]; omega)] at hv; cases hv
      have hjz : j < zs.length := by omega
      have hc := hcell j hjz
      rw [add_plain (hsp (by omega))] at hc
      rw [hc]
      rw [List.getElem?_take, if_pos hj, List.getElem?_eq_getElem hjz] at hv
      simp only [Option.map_some, Option.some.injEq] at hv
      subst hv
      have hb := bounds_u8 (hwz zs[j] (List.getElem_mem hjz))
      simp only [B, List.getD, List.getElem?_eq_getElem hjz, Option.getD_some, UInt8.toNat_ofNat']
      congr 2
      omega
theorem bytes_in {H : Type} {enc : TypeId × Value → H} {W : World} {base : Nat} {a : Option Addr} {n c : Nat} {x : DataW H} {p : List MemPlace}
    (hok : Value.okWide Try.prog W .any base 34 (.slice a n c)) (h : ∃ fuel, DataW.trod enc Try.prog W 0 (fun _ => true) true fuel 34 (Value.cells (.slice a n c)).toList = some (x, p)) : ∃ xs : List UInt8, BS W a n c xs :=
  bytes_cell h
end Go.Proofs.Yteekafpkbdbadaa
