/- what the laws of salt share: how arguments come in. -/
import Derived.Test.YtlncnjcbgfeaoaaCJ
import Derived.ProofKit
import Derived.OpenShut
import Derived.ShutString
import Derived.ChangeOld
import Derived.Below
import Derived.Deep.DeepHandedRow
import Derived.WideKeyArr2
set_option maxRecDepth 100000
set_option linter.unusedVariables false
namespace Go.Proofs.Ytlncnjcbgfeaoaa
open Go.ChangeShapes Go.WideShapes Go.ChangeAt Go.RowKit
theorem own : ownKnob Try.prog.godebug = none := by kernel_rfl
theorem laidOut : laidOutB Try.prog = true := by kernel_rfl
theorem spot_of {P : Program} {W : World} {base : Nat} {t e : TypeId} {x : Addr} {l c : Nat} (hu : P.underlying t = some (.slice e)) (h : Value.okWide P W .any base t (.slice (some x) l c)) : x.spot = none := by
  simp only [Value.okWide, hu, Cell.okWide, Cell.ok, World.has] at h
  exact h.2.2.2.1
/-- a slice of bytes that came in reads as bytes -/
theorem bytes_cell {H : Type} {enc : TypeId × Value → H} {W : World} {a : Option Addr} {n c : Nat} {x : DataW H × List MemPlace}
    (h : ∃ fuel, DataW.trod enc Try.prog W 0 (fun _ => true) true fuel 23 [.slice a n c] = some x) : ∃ xs : List UInt8, BS W a n c xs := by
  obtain ⟨fuel, hf⟩ := h
  rcases open_ints Try.underlying23 Try.underlying5 (by kernel_rfl) hf with ⟨hcs, _⟩ | ⟨y, l, cc, zs, hcs, _, hl, hm, hz, _, hcell, hwz⟩
  · simp at hcs
    obtain ⟨rfl, rfl, rfl⟩ := hcs
    exact ⟨[], RS_nil _ _⟩
  · simp at hcs
    obtain ⟨rfl, rfl, rfl⟩ := hcs
    simp only [if_true] at hz
    have hsp : 0 < c → y.spot = none := fun h0 => by
      have hc := hcell 0 (by omega)
      rw [show y.add 0 = y from rfl] at hc
      unfold World.cell? at hc
      split at hc
      · split at hc
        · cases hc
        · next h1 => simpa using h1
      · cases hc
    refine ⟨(zs.take n).map (fun z => UInt8.ofNat z.toNat), ?_, hl, hm, one_B _, (fun h => by cases h), fun ad had => ?_⟩
    · simp [List.length_take]; omega
    · cases had
      refine ⟨hsp, fun j v hv => ?_⟩
      rw [List.getElem?_map, List.getElem?_map] at hv
      have hj : j < n := by
        rcases Nat.lt_or_ge j n with h | h
        · exact h
        · rw [List.getElem?_eq_none (by rw [List.length_take]; omega)] at hv; cases hv
      have hjz : j < zs.length := by omega
      have hc := hcell j hjz
      rw [add_plain (hsp (by omega))] at hc
      rw [hc]
      rw [List.getElem?_take, if_pos hj, List.getElem?_eq_getElem hjz] at hv
      simp only [Option.map_some, Option.some.injEq] at hv
      subst hv
      have hb := bounds_u8 (hwz zs[j] (List.getElem_mem hjz))
      simp only [B, List.getD, List.getElem?_eq_getElem hjz, Option.getD_some, UInt8.toNat_ofNat']
      congr 2
      omega
theorem bytes_in {H : Type} {enc : TypeId × Value → H} {W : World} {base : Nat} {a : Option Addr} {n c : Nat} {x : DataW H} {p : List MemPlace}
    (hok : Value.okWide Try.prog W .any base 23 (.slice a n c)) (h : ∃ fuel, DataW.trod enc Try.prog W 0 (fun _ => true) true fuel 23 (Value.cells (.slice a n c)).toList = some (x, p)) : ∃ xs : List UInt8, BS W a n c xs :=
  bytes_cell h
theorem bytes_of {n : Nat} {cs : List Value} (hl : cs.length = n) (h : ∀ i, i < n → ∃ z : Int, cs[i]? = some (.int .u8 z) ∧ 0 ≤ z ∧ z ≤ 255) : ∃ xs : List UInt8, cs = xs.map B ∧ xs.length = n := by
  induction n generalizing cs with
  | zero =>
    obtain rfl := List.eq_nil_of_length_eq_zero hl
    exact ⟨[], rfl, rfl⟩
  | succ n ih =>
    cases cs with
    | nil => simp at hl
    | cons c cs =>
      obtain ⟨z, hz, h0, h1⟩ := h 0 (by omega)
      obtain ⟨xs, rfl, hxl⟩ := ih (cs := cs) (by simpa using hl) (fun i hi => by simpa using h (i + 1) (by omega))
      simp only [List.getElem?_cons_zero, Option.some.injEq] at hz
      refine ⟨UInt8.ofNat z.toNat :: xs, ?_, by simp [hxl]⟩
      rw [List.map_cons, hz]
      congr 1
      simp only [B, UInt8.toNat_ofNat']
      congr 1
      omega
theorem arr32_in {H : Type} {enc : TypeId × Value → H} {W : World} {base : Nat} {v : Value} {x : DataW H} {p : List MemPlace}
    (hok : Value.okWide Try.prog W .any base 22 v) (h : ∃ fuel, DataW.trod enc Try.prog W 0 (fun _ => true) true fuel 22 (Value.cells v).toList = some (x, p)) : ∃ xs : List UInt8, v = .agg (xs.map B).toArray ∧ xs.length = 32 := by
  have hc : Try.prog.cellsOf 22 = 32 := by kernel_rfl
  have hce : Try.prog.cellsOf 5 = 1 := by kernel_rfl
  have A : WideMaps.ArrKey Try.prog 22 5 32 := ⟨Try.underlying22, by kernel_rfl, hce, hc⟩
  obtain ⟨cs, rfl, hsz⟩ := WideMaps.okWide_arr A hok
  obtain ⟨fuel, hf⟩ := h
  have hcl : cs.toList.length = 32 := by rw [Array.length_toList]; exact hsz
  obtain ⟨xs, hxs, hxl⟩ := bytes_of (cs := cs.toList) hcl (fun i hi => by
    cases fuel with
    | zero => simp [DataW.trod] at hf
    | succ m =>
      simp only [DataW.trod, Try.underlying22, hce, hc, Nat.mul_one, Value.cells] at hf
      rw [if_pos hcl] at hf
      obtain ⟨ys, hm, hx⟩ := Option.map_eq_some_iff.1 hf
      obtain ⟨b, hb, hg⟩ := Lib.mapM_at hm i i (by simp [hi])
      obtain ⟨z, hz, _, hw⟩ := DataW.trod_int Try.underlying5 hg
      have hbd := bounds_u8 hw
      refine ⟨z, ?_, hbd.1, by have := hbd.2; omega⟩
      have := congrArg (·[0]?) hz
      simpa [List.getElem?_take, List.getElem?_drop] using this)
  refine ⟨xs, ?_, hxl⟩
  rw [← hxs]
theorem arr12_in {H : Type} {enc : TypeId × Value → H} {W : World} {base : Nat} {v : Value} {x : DataW H} {p : List MemPlace}
    (hok : Value.okWide Try.prog W .any base 32 v) (h : ∃ fuel, DataW.trod enc Try.prog W 0 (fun _ => true) true fuel 32 (Value.cells v).toList = some (x, p)) : ∃ xs : List UInt8, v = .agg (xs.map B).toArray ∧ xs.length = 12 := by
  have hc : Try.prog.cellsOf 32 = 12 := by kernel_rfl
  have hce : Try.prog.cellsOf 5 = 1 := by kernel_rfl
  have A : WideMaps.ArrKey Try.prog 32 5 12 := ⟨Try.underlying32, by kernel_rfl, hce, hc⟩
  obtain ⟨cs, rfl, hsz⟩ := WideMaps.okWide_arr A hok
  obtain ⟨fuel, hf⟩ := h
  have hcl : cs.toList.length = 12 := by rw [Array.length_toList]; exact hsz
  obtain ⟨xs, hxs, hxl⟩ := bytes_of (cs := cs.toList) hcl (fun i hi => by
    cases fuel with
    | zero => simp [DataW.trod] at hf
    | succ m =>
      simp only [DataW.trod, Try.underlying32, hce, hc, Nat.mul_one, Value.cells] at hf
      rw [if_pos hcl] at hf
      obtain ⟨ys, hm, hx⟩ := Option.map_eq_some_iff.1 hf
      obtain ⟨b, hb, hg⟩ := Lib.mapM_at hm i i (by simp [hi])
      obtain ⟨z, hz, _, hw⟩ := DataW.trod_int Try.underlying5 hg
      have hbd := bounds_u8 hw
      refine ⟨z, ?_, hbd.1, by have := hbd.2; omega⟩
      have := congrArg (·[0]?) hz
      simpa [List.getElem?_take, List.getElem?_drop] using this)
  refine ⟨xs, ?_, hxl⟩
  rw [← hxs]
theorem arr16_in {H : Type} {enc : TypeId × Value → H} {W : World} {base : Nat} {v : Value} {x : DataW H} {p : List MemPlace}
    (hok : Value.okWide Try.prog W .any base 27 v) (h : ∃ fuel, DataW.trod enc Try.prog W 0 (fun _ => true) true fuel 27 (Value.cells v).toList = some (x, p)) : ∃ xs : List UInt8, v = .agg (xs.map B).toArray ∧ xs.length = 16 := by
  have hc : Try.prog.cellsOf 27 = 16 := by kernel_rfl
  have hce : Try.prog.cellsOf 5 = 1 := by kernel_rfl
  have A : WideMaps.ArrKey Try.prog 27 5 16 := ⟨Try.underlying27, by kernel_rfl, hce, hc⟩
  obtain ⟨cs, rfl, hsz⟩ := WideMaps.okWide_arr A hok
  obtain ⟨fuel, hf⟩ := h
  have hcl : cs.toList.length = 16 := by rw [Array.length_toList]; exact hsz
  obtain ⟨xs, hxs, hxl⟩ := bytes_of (cs := cs.toList) hcl (fun i hi => by
    cases fuel with
    | zero => simp [DataW.trod] at hf
    | succ m =>
      simp only [DataW.trod, Try.underlying27, hce, hc, Nat.mul_one, Value.cells] at hf
      rw [if_pos hcl] at hf
      obtain ⟨ys, hm, hx⟩ := Option.map_eq_some_iff.1 hf
      obtain ⟨b, hb, hg⟩ := Lib.mapM_at hm i i (by simp [hi])
      obtain ⟨z, hz, _, hw⟩ := DataW.trod_int Try.underlying5 hg
      have hbd := bounds_u8 hw
      refine ⟨z, ?_, hbd.1, by have := hbd.2; omega⟩
      have := congrArg (·[0]?) hz
      simpa [List.getElem?_take, List.getElem?_drop] using this)
  refine ⟨xs, ?_, hxl⟩
  rw [← hxs]
end Go.Proofs.Ytlncnjcbgfeaoaa
