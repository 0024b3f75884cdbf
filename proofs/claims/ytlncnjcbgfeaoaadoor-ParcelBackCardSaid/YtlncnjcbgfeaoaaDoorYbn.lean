/- texts KC KN in one. -/
import Derived.Test.YtlncnjcbgfeaoaaDoorYbm
import Derived.Test.YtlncnjcbgfeaoaaDoorYbb

/- the three laid variables of the laws of parcels. -/
set_option maxRecDepth 100000
set_option linter.unusedVariables false
namespace Go.Proofs.YtlncnjcbgfeaoaaDoor
open Go.ChangeShapes Go.WideShapes Go.ChangeAt Go.RowKit
theorem gK : Tryd.prog.globalNamed "colonnade/head.kinds" = some 1 := by kernel_rfl
theorem gKType : (Tryd.prog.globals[1]?).map (·.type) = some 105 := by kernel_rfl
theorem cellsK : Tryd.prog.cellsOf 105 = 2 := by kernel_rfl
theorem kinds_in {W : World} (h : laidMetH Tryd.prog [("colonnade/head.kinds", Rows.laid_colonnade_head_kinds)] W) : KG W := by
  have ht : Lib.TabIs Tryd.prog W "colonnade/head.kinds" .u8 [0, 2] := Lib.tabIs_of_head (rest := []) gK gKType Tryd.underlying105 Tryd.underlying5 cellsB cellsK h
  exact ⟨ht.cell gK 0 (by decide), ht.cell gK 1 (by decide)⟩
theorem laid3_ring {W : World} (h : laidMetH Tryd.prog [("colonnade/ring.round", Rows.laid_colonnade_ring_round), ("colonnade/head.kinds", Rows.laid_colonnade_head_kinds), ("colonnade/parcel.first", Rows.laid_colonnade_parcel_first)] W) : KT W := by
  have := h.filter (fun x => x.1 == "colonnade/ring.round")
  exact rounds_in this
theorem laid3_kinds {W : World} (h : laidMetH Tryd.prog [("colonnade/ring.round", Rows.laid_colonnade_ring_round), ("colonnade/head.kinds", Rows.laid_colonnade_head_kinds), ("colonnade/parcel.first", Rows.laid_colonnade_parcel_first)] W) : KG W := by
  have := h.filter (fun x => x.1 == "colonnade/head.kinds")
  exact kinds_in this
theorem laid3_first {W : World} (h : laidMetH Tryd.prog [("colonnade/ring.round", Rows.laid_colonnade_ring_round), ("colonnade/head.kinds", Rows.laid_colonnade_head_kinds), ("colonnade/parcel.first", Rows.laid_colonnade_parcel_first)] W) : KF W := by
  have := h.filter (fun x => x.1 == "colonnade/parcel.first")
  exact first_in this
end Go.Proofs.YtlncnjcbgfeaoaaDoor

/- Numbers that came in, with their bounds. -/
set_option maxRecDepth 100000
set_option linter.unusedVariables false
namespace Go.Proofs.YtlncnjcbgfeaoaaDoor
open Go.ChangeShapes Go.WideShapes Go.ChangeAt Go.RowKit
section
variable {H : Type} {enc : TypeId × Value → H} {W : World} {base : Nat} {v : Value} {x : DataW H} {p : List MemPlace}
theorem num_u8 (hok : Value.okWide Tryd.prog W .any base 5 v) (h : ∃ fuel, DataW.trod enc Tryd.prog W 0 (fun _ => true) true fuel 5 (Value.cells v).toList = some (x, p)) :
    ∃ n : Nat, v = .int .u8 (n : Int) ∧ n ≤ 255 := by
  obtain ⟨n, rfl⟩ := okWide_int Tryd.underlying5 hok
  obtain ⟨fuel, hf⟩ := h
  obtain ⟨m, hm, _, hw⟩ := DataW.trod_int Tryd.underlying5 hf
  simp only [Value.cells, List.cons.injEq, Value.int.injEq, true_and, and_true] at hm
  subst hm
  have hb := bounds_u8 hw
  obtain ⟨k, rfl⟩ := Int.eq_ofNat_of_zero_le hb.1
  exact ⟨k, rfl, by omega⟩
theorem num_u16 (hok : Value.okWide Tryd.prog W .any base 53 v) (h : ∃ fuel, DataW.trod enc Tryd.prog W 0 (fun _ => true) true fuel 53 (Value.cells v).toList = some (x, p)) :
    ∃ n : Nat, v = .int .u16 (n : Int) ∧ n ≤ 65535 := by
  obtain ⟨n, rfl⟩ := okWide_int Tryd.underlying53 hok
  obtain ⟨fuel, hf⟩ := h
  obtain ⟨m, hm, _, hw⟩ := DataW.trod_int Tryd.underlying53 hf
  simp only [Value.cells, List.cons.injEq, Value.int.injEq, true_and, and_true] at hm
  subst hm
  have hb := bounds_u16 hw
  obtain ⟨k, rfl⟩ := Int.eq_ofNat_of_zero_le hb.1
  exact ⟨k, rfl, by omega⟩
theorem num_u64 (hok : Value.okWide Tryd.prog W .any base 41 v) (h : ∃ fuel, DataW.trod enc Tryd.prog W 0 (fun _ => true) true fuel 41 (Value.cells v).toList = some (x, p)) :
    ∃ n : Nat, v = .int .u64 (n : Int) ∧ n ≤ 18446744073709551615 := by
  obtain ⟨n, rfl⟩ := okWide_int Tryd.underlying41 hok
  obtain ⟨fuel, hf⟩ := h
  obtain ⟨m, hm, _, hw⟩ := DataW.trod_int Tryd.underlying41 hf
  simp only [Value.cells, List.cons.injEq, Value.int.injEq, true_and, and_true] at hm
  subst hm
  have hb := bounds_u64 hw
  obtain ⟨k, rfl⟩ := Int.eq_ofNat_of_zero_le hb.1
  exact ⟨k, rfl, by omega⟩
end
end Go.Proofs.YtlncnjcbgfeaoaaDoor
