/- what the laws of head share: how arguments come in; a cut into a slice's spare room. -/
import Derived.Test.YtdfachjgnhljfaaDoorR12
import Derived.Test.YtdfachjgnhljfaaDoorR14
import Derived.Test.YtdfachjgnhljfaaDoorA
import Derived.Test.YtdfachjgnhljfaaDoorCards
import Derived.Test.YtdfachjgnhljfaaDoorTie
import Derived.ProofKit
import Derived.OpenShut
import Derived.ShutString
import Derived.ChangeOld
import Derived.Deep.DeepHandedRow
import Derived.Lib.LaidTab
set_option maxRecDepth 100000
set_option linter.unusedVariables false
namespace Go.Proofs.YtdfachjgnhljfaaDoor
open Go.ChangeShapes Go.WideShapes Go.ChangeAt Go.RowKit
theorem own : ownKnob Tryd.prog.godebug = none := by kernel_rfl
theorem laidOut : laidOutB Tryd.prog = true := by kernel_rfl
theorem spot_of {P : Program} {W : World} {base : Nat} {t e : TypeId} {x : Addr} {l c : Nat} (hu : P.underlying t = some (.slice e)) (h : Value.okWide P W .any base t (.slice (some x) l c)) : x.spot = none := by
  simp only [Value.okWide, hu, Cell.okWide, Cell.ok, World.has] at h
  exact h.2.2.2.1
/-- a slice of bytes that came in reads as bytes -/
theorem bytes_cell {H : Type} {enc : TypeId × Value → H} {W : World} {a : Option Addr} {n c : Nat} {x : DataW H × List MemPlace}
    (h : ∃ fuel, DataW.trod enc Tryd.prog W 0 (fun _ => true) true fuel 22 [.slice a n c] = some x) : ∃ xs : List UInt8, BS W a n c xs := by
  obtain ⟨fuel, hf⟩ := h
  rcases open_ints Tryd.underlying22 Tryd.underlying5 (by kernel_rfl) hf with ⟨hcs, _⟩ | ⟨y, l, cc, zs, hcs, _, hl, hm, hz, _, hcell, hwz⟩
  · simp at hcs
    obtain ⟨rfl, rfl, rfl⟩ := hcs
    exact ⟨[], RS_nil _ _⟩
  · simp at hcs
    obtain ⟨rfl, rfl, rfl⟩ := hcs
    simp only [if_true] at hz
    have hsp : 0 < c → y.spot = none := fun h0 => by
      have hc := hcell 0 (by omega)
      rw [show y.add 0 = y from rfl] at hc
      unfold World.cell? at hc
      split at hc
      · split at hc
        · cases hc
        · next h1 => simpa using h1
      · cases hc
    refine ⟨(zs.take n).map (fun z => UInt8.ofNat z.toNat), ?_, hl, hm, one_B _, (fun h => by cases h), fun ad had => ?_⟩
    · simp [List.length_take]; omega
    · cases had
      refine ⟨hsp, fun j v hv => ?_⟩
      rw [List.getElem?_map, List.getElem?_map] at hv
      have hj : j < n := by
        rcases Nat.lt_or_ge j n with h | h
        · exact h
        · rw [List.getElem?_eq_none (by rw [List.length_take]; omega)] at hv; cases hv
      have hjz : j < zs.length := by omega
      have hc := hcell j hjz
      rw [add_plain (hsp (by omega))] at hc
      rw [hc]
      rw [List.getElem?_take, if_pos hj, List.getElem?_eq_getElem hjz] at hv
      simp only [Option.map_some, Option.some.injEq] at hv
      subst hv
      have hb := bounds_u8 (hwz zs[j] (List.getElem_mem hjz))
      simp only [B, List.getD, List.getElem?_eq_getElem hjz, Option.getD_some, UInt8.toNat_ofNat']
      congr 2
      omega
theorem bytes_in {H : Type} {enc : TypeId × Value → H} {W : World} {base : Nat} {a : Option Addr} {n c : Nat} {x : DataW H} {p : List MemPlace}
    (hok : Value.okWide Tryd.prog W .any base 22 (.slice a n c)) (h : ∃ fuel, DataW.trod enc Tryd.prog W 0 (fun _ => true) true fuel 22 (Value.cells (.slice a n c)).toList = some (x, p)) : ∃ xs : List UInt8, BS W a n c xs :=
  bytes_cell h
/-- s[:r] into the spare room -/
theorem L_reslice {P : Program} {w : World} {ops : Array Oper} {rest : List Oper} {o : Oper} {f : Act} {Q : Exit → Act → World → Prop} {t e : TypeId} {zero : Value} {z bytes : Nat}
    (ty : STy P t e zero z bytes) {a : Option Addr} {n c : Nat} (j : Nat) (x r : Operand) (hg : Region.wanted o (yielded ops f.tmps) = true)
    (hop : o.op = .slice t x none (some r) none) (k2 : IntKind) (J : Int) (ex : f.eval x = .slice a n c) (er : f.eval r = .int k2 J) (hJ : J = j) (h2 : j ≤ c)
    (h : wpList P ops Q rest (f.put o.dst (.slice a j c)) w) : wpList P ops Q (o :: rest) f w := by
  subst hJ
  refine wpList_on hg fun K hK => ?_
  have hrun : (Instr.sliceAt t (.slice a n c) (none : Option Value) (some (.int k2 (j : Int))) none).run P w = .ok (sliced a 0 j c z) w := by
    rw [run_sliceAt_slice w t _ _ _ _ ty.und', run_slice_h w t a n c ty.und' k2 _ (by omega) (by omega), ty.sizeOf]
    simp [Result.andThen]
  unfold Oper.wp
  simp only [execOp, hop, ex, Option.map_some, Option.map_none, er]
  simp only [Sem.run_bind, hrun, Result.andThen]
  have e1 : sliced a 0 j c z = .slice a j c := by
    unfold sliced
    split
    · rfl
    · cases a <;> simp [Addr.add]
  rw [e1]
  exact hK _ _ h
/-- what the row's list gives: the table's two numbers -/
theorem gK : Tryd.prog.globalNamed "colonnade/head.kinds" = some 0 := by kernel_rfl
theorem gKType : (Tryd.prog.globals[0]?).map (·.type) = some 91 := by kernel_rfl
theorem cellsK : Tryd.prog.cellsOf 91 = 2 := by kernel_rfl
theorem cellsB : Tryd.prog.cellsOf 5 = 1 := by kernel_rfl
theorem kinds_in {W : World} (h : laidMetH Tryd.prog [("colonnade/head.kinds", Rows.laid_colonnade_head_kinds)] W) : KG W := by
  have ht : Lib.TabIs Tryd.prog W "colonnade/head.kinds" .u8 [0, 2] := Lib.tabIs_of_head (rest := []) gK gKType Tryd.underlying91 Tryd.underlying5 cellsB cellsK h
  exact ⟨ht.cell gK 0 (by decide), ht.cell gK 1 (by decide)⟩
end Go.Proofs.YtdfachjgnhljfaaDoor
