/- GreetParams: what came in, and the laid tables. -/
import Derived.Test.YtkhcpnmbhbhcgaaDoorYam
import Derived.Test.YtkhcpnmbhbhcgaaDoorYbl
import Derived.WideKeyArr2
import Derived.LaidSub
set_option maxRecDepth 100000
set_option linter.unusedVariables false
namespace Go.Proofs.YtkhcpnmbhbhcgaaDoor
open Go.ChangeShapes Go.WideShapes Go.ChangeAt Go.RowKit
theorem nums_of {n : Nat} {cs : List Value} (hl : cs.length = n) (h : ∀ i, i < n → ∃ z : Int, cs[i]? = some (.int .u64 z) ∧ 0 ≤ z ∧ z ≤ 18446744073709551615) : ∃ xs : List Nat, cs = U6 xs ∧ xs.length = n ∧ ∀ x ∈ xs, x < 18446744073709551616 := by
  induction n generalizing cs with
  | zero =>
    obtain rfl := List.eq_nil_of_length_eq_zero hl
    exact ⟨[], rfl, rfl, fun x h => by cases h⟩
  | succ n ih =>
    cases cs with
    | nil => simp at hl
    | cons c cs =>
      obtain ⟨z, hz, h0, h1⟩ := h 0 (by omega)
      obtain ⟨xs, rfl, hxl, hxb⟩ := ih (cs := cs) (by simpa using hl) (fun i hi => by simpa using h (i + 1) (by omega))
      simp only [List.getElem?_cons_zero, Option.some.injEq] at hz
      obtain ⟨k, rfl⟩ := Int.eq_ofNat_of_zero_le h0
      refine ⟨k :: xs, by simp [U6, hz], by simp [hxl], fun x hx => ?_⟩
      rcases List.mem_cons.1 hx with rfl | hx
      · omega
      · exact hxb x hx
theorem six_in {H : Type} {enc : TypeId × Value → H} {W : World} {base : Nat} {v : Value} {x : DataW H} {p : List MemPlace}
    (hok : Value.okWide Tryd.prog W .any base 58 v) (h : ∃ fuel, DataW.trod enc Tryd.prog W 0 (fun _ => true) true fuel 58 (Value.cells v).toList = some (x, p)) : ∃ xs : List Nat, v = .agg (U6 xs).toArray ∧ xs.length = 6 ∧ ∀ x ∈ xs, x < 18446744073709551616 := by
  have hc : Tryd.prog.cellsOf 58 = 6 := by kernel_rfl
  have hce : Tryd.prog.cellsOf 37 = 1 := by kernel_rfl
  have A : WideMaps.ArrKey Tryd.prog 58 37 6 := ⟨Tryd.underlying58, by kernel_rfl, hce, hc⟩
  obtain ⟨cs, rfl, hsz⟩ := WideMaps.okWide_arr A hok
  obtain ⟨fuel, hf⟩ := h
  have hcl : cs.toList.length = 6 := by rw [Array.length_toList]; exact hsz
  obtain ⟨xs, hxs, hxl, hxb⟩ := nums_of (cs := cs.toList) hcl (fun i hi => by
    cases fuel with
    | zero => simp [DataW.trod] at hf
    | succ m =>
      simp only [DataW.trod, Tryd.underlying58, hce, hc, Nat.mul_one, Value.cells] at hf
      rw [if_pos hcl] at hf
      obtain ⟨ys, hm, hx⟩ := Option.map_eq_some_iff.1 hf
      obtain ⟨b, hb, hg⟩ := Lib.mapM_at hm i i (by simp [hi])
      obtain ⟨z, hz, _, hw⟩ := DataW.trod_int Tryd.underlying37 hg
      have hbd := bounds_u64 hw
      refine ⟨z, ?_, hbd.1, by have := hbd.2; omega⟩
      have := congrArg (·[0]?) hz
      simpa [List.getElem?_take, List.getElem?_drop] using this)
  refine ⟨xs, ?_, hxl, hxb⟩
  rw [← hxs]
theorem cells6 : Tryd.prog.cellsOf 58 = 6 := by kernel_rfl
theorem cells64 : Tryd.prog.cellsOf 37 = 1 := by kernel_rfl
theorem g_ids_in : Tryd.prog.globalNamed "colonnade/greet.ids" = some 0 := by kernel_rfl
theorem t_ids_in : (Tryd.prog.globals[0]?).map (·.type) = some 58 := by kernel_rfl
theorem ids_in {W : World} (h : laidMetH Tryd.prog [("colonnade/greet.ids", Rows.laid_colonnade_greet_ids)] W) : TI W 0 := by
  have ht : Lib.TabIs Tryd.prog W "colonnade/greet.ids" .u64 [1, 4, 6, 8, 9, 32] := Lib.tabIs_of_head (rest := []) g_ids_in t_ids_in Tryd.underlying58 Tryd.underlying37 cells64 cells6 h
  intro i hi
  have h2 := ht.cell g_ids_in i (by simpa using hi)
  rw [h2]
  rcases (show i = 0 ∨ i = 1 ∨ i = 2 ∨ i = 3 ∨ i = 4 ∨ i = 5 by omega) with rfl | rfl | rfl | rfl | rfl | rfl <;> rfl
theorem g_order_in : Tryd.prog.globalNamed "colonnade/colonnaderef13.order" = some 1 := by kernel_rfl
theorem t_order_in : (Tryd.prog.globals[1]?).map (·.type) = some 58 := by kernel_rfl
theorem order_in {W : World} (h : laidMetH Tryd.prog [("colonnade/colonnaderef13.order", Rows.laid_colonnade_colonnaderef13_order)] W) : TI W 1 := by
  have ht : Lib.TabIs Tryd.prog W "colonnade/colonnaderef13.order" .u64 [1, 4, 6, 8, 9, 32] := Lib.tabIs_of_head (rest := []) g_order_in t_order_in Tryd.underlying58 Tryd.underlying37 cells64 cells6 h
  intro i hi
  have h2 := ht.cell g_order_in i (by simpa using hi)
  rw [h2]
  rcases (show i = 0 ∨ i = 1 ∨ i = 2 ∨ i = 3 ∨ i = 4 ∨ i = 5 by omega) with rfl | rfl | rfl | rfl | rfl | rfl <;> rfl
theorem laidp_ring {W : World} (h : laidMetH Tryd.prog Rows.greetParamsRow.laid W) : KT W := by
  have := h.filter (fun x => x.1 == "colonnade/ring.round")
  exact rounds_in this
theorem laidp_ids {W : World} (h : laidMetH Tryd.prog Rows.greetParamsRow.laid W) : TI W 0 := by
  have := h.filter (fun x => x.1 == "colonnade/greet.ids")
  exact ids_in this
theorem laidp_order {W : World} (h : laidMetH Tryd.prog Rows.greetParamsRow.laid W) : TI W 1 := by
  have := h.filter (fun x => x.1 == "colonnade/colonnaderef13.order")
  exact order_in this
end Go.Proofs.YtkhcpnmbhbhcgaaDoor
