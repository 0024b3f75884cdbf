/- Keys compared; a struct built of its last part; law06.awake. -/
import Derived.Test.YtlncnjcbgfeaoaaDoorK7
set_option maxRecDepth 100000
set_option linter.unusedVariables false
namespace Go.Proofs.YtlncnjcbgfeaoaaDoor
open Go.RowKit Go.Joins
theorem run_partA {t e : TypeId} {k : Nat} (hu : Tryd.prog.underlying t = some (.array k e)) {n : Nat} (hi : (Tryd.prog.info? t).map (·.size) = some n) (cs : Array Value) (off : Nat) (w : World) : (part t cs off).run Tryd.prog w = .ok (.agg (cs.extract off (off + n))) w := by
  cases hq : Tryd.prog.info? t with
  | none => simp [hq] at hi
  | some i =>
    have hs : i.size = n := by simpa [hq] using hi
    have hagg : (isAgg t).run Tryd.prog w = .ok true w := by
      unfold isAgg
      rw [Sem.run_bind, run_underlying hu w]
      rfl
    simp [part, Sem.run_bind, hagg, sizeOf, typeInfo, hq, hs]
theorem extract_map (D : List UInt8) (o n : Nat) : (D.map B).toArray.extract o (o + n) = (((D.drop o).take n).map B).toArray := by
  simp [List.extract_eq_take_drop, List.map_take, List.map_drop]
theorem szU8 : ∀ w, (Go.sizeOf 5).run Tryd.prog w = .ok 1 w := fun w => by have := tB.sizeOf (w := w); rwa [tB.elem] at this
theorem eq_fields (D : List UInt8) (hD : D.length = 76) (w : World) : ∀ fs : List Field, (fs.all fun f => (f.type == 22 && decide (f.offset + 32 ≤ 76)) || (f.type == 31 && decide (f.offset + 12 ≤ 76))) = true →
    (Op.eqFields 9999 (D.map B).toArray (D.map B).toArray fs).run Tryd.prog w = .ok true w := by
  intro fs
  induction fs with
  | nil => intro _; simp [Op.eqFields]
  | cons f fs ih =>
    intro h
    rw [List.all_cons, Bool.and_eq_true] at h
    have ih := ih h.2
    have h1 := h.1
    rw [Bool.or_eq_true, Bool.and_eq_true, Bool.and_eq_true, decide_eq_true_eq, decide_eq_true_eq, beq_iff_eq, beq_iff_eq] at h1
    have key : ∃ xs, (part f.type (D.map B).toArray f.offset).run Tryd.prog w = .ok (.agg xs) w ∧ (Op.equalIn 9999 f.type (.agg xs) (.agg xs)).run Tryd.prog w = .ok true w := by
      rcases h1 with ⟨ht, ho⟩ | ⟨ht, ho⟩
      · refine ⟨_, by rw [ht]; exact run_partA Tryd.underlying22 i32 _ _ w, ?_⟩
        rw [extract_map, ht]
        have hl : ((D.drop f.offset).take 32).length = 32 := by rw [List.length_take, List.length_drop]; omega
        have h2 := run_equalIn_bytes (P := Tryd.prog) w 9997 22 5 32 Tryd.underlying22 Tryd.underlying5 szU8 _ _ hl hl
        rw [beq_self_eq_true] at h2
        exact h2
      · refine ⟨_, by rw [ht]; exact run_partA Tryd.underlying31 i12 _ _ w, ?_⟩
        rw [extract_map, ht]
        have hl : ((D.drop f.offset).take 12).length = 12 := by rw [List.length_take, List.length_drop]; omega
        have h2 := run_equalIn_bytes (P := Tryd.prog) w 9997 31 5 12 Tryd.underlying31 Tryd.underlying5 szU8 _ _ hl hl
        rw [beq_self_eq_true] at h2
        exact h2
    obtain ⟨xs, k1, k2⟩ := key
    rw [Op.eqFields]
    split
    · simp [Sem.run_bind, k1, k2, ih, Result.andThen]
    · exact ih
theorem eq_keys {D : List UInt8} (hD : D.length = 76) (w : World) : (Op.equalIn 10000 33 (.agg (D.map B).toArray) (.agg (D.map B).toArray)).run Tryd.prog w = .ok true w := by
  rw [run_equalIn_struct w 9999 33 _ _ (by kernel_rfl) (by kernel_rfl)]
  exact eq_fields D hD w _ (by kernel_rfl)
/-- a struct built of its third part alone: the others are naught -/
theorem built1 {P : Program} {t : TypeId} {fields : Array Field} (hu : P.underlying t = some (.struct fields)) (hz : (P.info? t).map (fun i => i.zero.map (·.cells)) = some (some ((List.replicate 76 (0 : UInt8)).map B).toArray))
    (hp : fields.toList.mapM (fun f => (P.info? f.type).map fun i => (f.offset, i.size)) = some [(0, 32), (32, 12), (44, 32)]) {c : List UInt8} (hc : c.length = 32) :
    P.built t [(2, .agg (c.map B).toArray)] = some ((List.replicate 44 0 ++ c).map B).toArray := by
  cases hq : P.info? t with
  | none => simp [hq] at hz
  | some it =>
    cases hzz : it.zero with
    | none => simp [hq, hzz] at hz
    | some z =>
      have hsz : z.cells = ((List.replicate 76 (0 : UInt8)).map B).toArray := by simpa [hq, hzz] using hz
      unfold Program.built
      rw [hq, hu]
      simp only [hzz, hp]
      rw [fill_cons _ _ 2 (c.map B) _ 44 32 rfl (by rw [List.length_map, hc]) (by rw [hsz]; simp)]
      rw [Instr.fill, hsz]
      congr 2
      rw [List.map_append]
      have e1 : (((List.replicate 76 (0 : UInt8)).map B).toArray.toList).take 44 = (List.replicate 44 (0 : UInt8)).map B := by simp
      have e2 : (((List.replicate 76 (0 : UInt8)).map B).toArray.toList).drop (44 + 32) = [] := by simp
      rw [e1, e2, List.append_nil]
theorem kzc : (Tryd.prog.info? 35).map (fun i => i.zero.map (·.cells)) = some (some ((List.replicate 76 (0 : UInt8)).map B).toArray) := by kernel_rfl
/-- the document's example -/
def nm0 : List UInt8 := [131, 148, 200, 240, 62, 81, 87, 8]
theorem awake_first : (expS (macS firstS nm0) (labS [99, 108, 105, 101, 110, 116, 32, 105, 110] [] 32) 32).take 4 = [192, 12, 241, 81] := by decide +kernel
end Go.Proofs.YtlncnjcbgfeaoaaDoor
