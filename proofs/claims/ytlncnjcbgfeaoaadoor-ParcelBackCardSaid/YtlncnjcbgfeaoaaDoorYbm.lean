/- arrays of bytes that came in; parcel's laid table. -/
import Derived.Test.YtlncnjcbgfeaoaaDoorYbl
import Derived.Test.YtlncnjcbgfeaoaaDoorYay
import Derived.WideKeyArr2
import Derived.LaidSub
set_option maxRecDepth 100000
set_option linter.unusedVariables false
namespace Go.Proofs.YtlncnjcbgfeaoaaDoor
open Go.ChangeShapes Go.WideShapes Go.ChangeAt Go.RowKit
theorem bytes_of {n : Nat} {cs : List Value} (hl : cs.length = n) (h : ∀ i, i < n → ∃ z : Int, cs[i]? = some (.int .u8 z) ∧ 0 ≤ z ∧ z ≤ 255) : ∃ xs : List UInt8, cs = xs.map B ∧ xs.length = n := by
  induction n generalizing cs with
  | zero =>
    obtain rfl := List.eq_nil_of_length_eq_zero hl
    exact ⟨[], rfl, rfl⟩
  | succ n ih =>
    cases cs with
    | nil => simp at hl
    | cons c cs =>
      obtain ⟨z, hz, h0, h1⟩ := h 0 (by omega)
      obtain ⟨xs, rfl, hxl⟩ := ih (cs := cs) (by simpa using hl) (fun i hi => by simpa using h (i + 1) (by omega))
      simp only [List.getElem?_cons_zero, Option.some.injEq] at hz
      refine ⟨UInt8.ofNat z.toNat :: xs, ?_, by simp [hxl]⟩
      rw [List.map_cons, hz]
      congr 1
      simp only [B, UInt8.toNat_ofNat']
      congr 1
      omega
theorem arr_in {H : Type} {enc : TypeId × Value → H} {W : World} {base : Nat} {v : Value} {x : DataW H} {p : List MemPlace}
    (hok : Value.okWide Tryd.prog W .any base 22 v) (h : ∃ fuel, DataW.trod enc Tryd.prog W 0 (fun _ => true) true fuel 22 (Value.cells v).toList = some (x, p)) : ∃ xs : List UInt8, v = .agg (xs.map B).toArray ∧ xs.length = 32 := by
  have hc : Tryd.prog.cellsOf 22 = 32 := by kernel_rfl
  have hce : Tryd.prog.cellsOf 5 = 1 := by kernel_rfl
  have A : WideMaps.ArrKey Tryd.prog 22 5 32 := ⟨Tryd.underlying22, by kernel_rfl, hce, hc⟩
  obtain ⟨cs, rfl, hsz⟩ := WideMaps.okWide_arr A hok
  obtain ⟨fuel, hf⟩ := h
  have hcl : cs.toList.length = 32 := by rw [Array.length_toList]; exact hsz
  obtain ⟨xs, hxs, hxl⟩ := bytes_of (cs := cs.toList) hcl (fun i hi => by
    cases fuel with
    | zero => simp [DataW.trod] at hf
    | succ m =>
      simp only [DataW.trod, Tryd.underlying22, hce, hc, Nat.mul_one, Value.cells] at hf
      rw [if_pos hcl] at hf
      obtain ⟨ys, hm, hx⟩ := Option.map_eq_some_iff.1 hf
      obtain ⟨b, hb, hg⟩ := Lib.mapM_at hm i i (by simp [hi])
      obtain ⟨z, hz, _, hw⟩ := DataW.trod_int Tryd.underlying5 hg
      have hbd := bounds_u8 hw
      refine ⟨z, ?_, hbd.1, by have := hbd.2; omega⟩
      have := congrArg (·[0]?) hz
      simpa [List.getElem?_take, List.getElem?_drop] using this)
  refine ⟨xs, ?_, hxl⟩
  rw [← hxs]
theorem gF : Tryd.prog.globalNamed "colonnade/parcel.first" = some 0 := by kernel_rfl
theorem gFType : (Tryd.prog.globals[0]?).map (·.type) = some 63 := by kernel_rfl
theorem cellsF : Tryd.prog.cellsOf 63 = 20 := by kernel_rfl
theorem cellsB : Tryd.prog.cellsOf 5 = 1 := by kernel_rfl
theorem first_in {W : World} (h : laidMetH Tryd.prog [("colonnade/parcel.first", Rows.laid_colonnade_parcel_first)] W) : KF W := by
  have ht : Lib.TabIs Tryd.prog W "colonnade/parcel.first" .u8 [56, 118, 44, 247, 245, 89, 52, 179, 77, 23, 154, 230, 164, 200, 12, 173, 204, 187, 127, 10] := Lib.tabIs_of_head (rest := []) gF gFType Tryd.underlying63 Tryd.underlying5 cellsB cellsF h
  intro j v hv
  rw [List.getElem?_map] at hv
  obtain ⟨y, hy, rfl⟩ := Option.map_eq_some_iff.1 hv
  have hj : j < 20 := by have := (List.getElem?_eq_some_iff.1 hy).1; exact this
  have h2 := ht.cell gF j hj
  rw [Nat.zero_add, h2]
  have e : (firstS.map fun b => (b.toNat : Int)) = [56, 118, 44, 247, 245, 89, 52, 179, 77, 23, 154, 230, 164, 200, 12, 173, 204, 187, 127, 10] := rfl
  rw [← e, List.getD_eq_getElem?_getD, List.getElem?_map, hy]; rfl
theorem laid_ring {W : World} (h : laidMetH Tryd.prog [("colonnade/ring.round", Rows.laid_colonnade_ring_round), ("colonnade/parcel.first", Rows.laid_colonnade_parcel_first)] W) : KT W := by
  have := h.filter (fun x => x.1 == "colonnade/ring.round")
  exact rounds_in this
theorem laid_first {W : World} (h : laidMetH Tryd.prog [("colonnade/ring.round", Rows.laid_colonnade_ring_round), ("colonnade/parcel.first", Rows.laid_colonnade_parcel_first)] W) : KF W := by
  have := h.filter (fun x => x.1 == "colonnade/parcel.first")
  exact first_in this
end Go.Proofs.YtlncnjcbgfeaoaaDoor
