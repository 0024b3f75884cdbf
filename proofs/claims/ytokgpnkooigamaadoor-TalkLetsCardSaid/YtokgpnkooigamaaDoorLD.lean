/- What came in, and the laid table of kinds. -/
import Derived.Test.YtokgpnkooigamaaDoorYaa
import Derived.Test.YtokgpnkooigamaaDoorCards
import Derived.Test.YtokgpnkooigamaaDoorTie
import Derived.WideKeyArr2
import Derived.LaidSub
import Derived.ProofKit
import Derived.OpenShut
import Derived.ShutString
import Derived.ChangeOld
import Derived.Deep.DeepHandedRow
import Derived.Lib.LaidTab
set_option maxRecDepth 100000
set_option linter.unusedVariables false
namespace Go.Proofs.YtokgpnkooigamaaDoor
open Go.ChangeShapes Go.WideShapes Go.ChangeAt Go.RowKit
theorem gK : Tryd.prog.globalNamed "colonnade/word.all" = some 0 := by kernel_rfl
theorem gKType : (Tryd.prog.globals[0]?).map (·.type) = some 101 := by kernel_rfl
theorem cK : Tryd.prog.cellsOf 100 = 2 := by kernel_rfl
theorem cU : Tryd.prog.cellsOf 23 = 1 := by kernel_rfl
theorem cI : Tryd.prog.cellsOf 3 = 1 := by kernel_rfl
def kdat {H : Type} (x : Nat × Nat) : DataW H := .agg [.lit (.int .u64 (x.1 : Int)), .lit (.int .i64 (x.2 : Int))]
theorem laidK : (Rows.laid_colonnade_word_all : DataW Unit) = .agg (kindT.map kdat) := rfl
theorem kinds_in {W : World} (h : laidMetH Tryd.prog [("colonnade/word.all", Rows.laid_colonnade_word_all)] W) : KA W := by
  obtain ⟨ps, ⟨g', t', cs, fuel, p, q, hg', ht', hvar, hd, _, _⟩, _⟩ := h
  obtain rfl := Option.some.inj (gK.symm.trans hg')
  obtain rfl := Option.some.inj (gKType.symm.trans ht')
  obtain ⟨xs, m, _, ex, hlen, hl, hel⟩ := DataW.trod_array Tryd.underlying101 hd
  have hxs : kindT.map kdat = xs.map (·.1) := by
    have := congrArg Prod.fst ex
    rw [show Rows.laid_colonnade_word_all = DataW.agg (kindT.map kdat) from laidK] at this
    exact DataW.agg.inj this
  intro j x hx
  have hj : j < 17 := (List.getElem?_eq_some_iff.1 hx).1
  have h1 := hel j hj
  rw [cK] at h1
  have h2 : (xs.map (·.1))[j]? = some (kdat x) := by rw [← hxs, List.getElem?_map, hx]; rfl
  rw [List.getElem?_map] at h2
  obtain ⟨y, hy, hy2⟩ := Option.map_eq_some_iff.1 h2
  rw [hy] at h1
  obtain ⟨zs, m2, _, ez, hzl, hz, hf⟩ := DataW.trod_struct Tryd.underlying100 h1
  have e1 : kdat x = .agg (zs.map (·.1)) := by rw [← hy2, ez]
  have e2 := DataW.agg.inj e1
  have f0 : DataW.trod (fun _ => ()) Tryd.prog W 0 (fun _ => true) false m2 23 ((((cs.toList.drop (j * 2)).take 2).drop 0).take (Tryd.prog.cellsOf 23)) = zs[0]? := hf 0 _ rfl
  have f1 : DataW.trod (fun _ => ()) Tryd.prog W 0 (fun _ => true) false m2 3 ((((cs.toList.drop (j * 2)).take 2).drop 1).take (Tryd.prog.cellsOf 3)) = zs[1]? := hf 1 _ rfl
  rw [cU] at f0
  rw [cI] at f1
  have hz2 : zs.length = 2 := hz
  match zs, hz2, e2, f0, f1 with
  | [z0, z1], _, e2, f0, f1 =>
    simp only [List.map_cons, List.map_nil, List.cons.injEq, and_true] at e2
    obtain ⟨n0, a0, b0, _⟩ := DataW.trod_int Tryd.underlying23 f0
    obtain ⟨n1, a1, b1, _⟩ := DataW.trod_int Tryd.underlying3 f1
    have n0e : (x.1 : Int) = n0 := by
      have := e2.1
      rw [b0] at this
      simpa using this
    have n1e : (x.2 : Int) = n1 := by
      have := e2.2
      rw [b1] at this
      simpa using this
    have hlc : cs.toList.length = 34 := hlen.trans (by kernel_rfl)
    have g0 : cs[2 * j]? = some (.int .u64 (x.1 : Int)) := by
      have := congrArg (·[0]?) a0
      rw [n0e, Nat.mul_comm]
      simpa [List.getElem?_take, List.getElem?_drop] using this
    have g1 : cs[2 * j + 1]? = some (.int .i64 (x.2 : Int)) := by
      have := congrArg (·[0]?) a1
      rw [n1e, Nat.mul_comm]
      simpa [List.getElem?_take, List.getElem?_drop] using this
    intro i v hv
    rw [World.var?_cell gK hvar]
    match i, hv with
    | 0, hv => cases hv; exact g0
    | 1, hv => cases hv; exact g1
/-- a slice of numbers that came in -/
theorem unums_in {H : Type} {enc : TypeId × Value → H} {W : World} {base : Nat} {a : Option Addr} {n c : Nat} {x : DataW H} {p : List MemPlace}
    (hok : Value.okWide Tryd.prog W .any base 22 (.slice a n c)) (h : ∃ fuel, DataW.trod enc Tryd.prog W 0 (fun _ => true) true fuel 22 (Value.cells (.slice a n c)).toList = some (x, p)) : ∃ xs : List Nat, RS W 1 a n c (US xs) ∧ ∀ x ∈ xs, x < 18446744073709551616 := by
  obtain ⟨fuel, hf⟩ := h
  rcases open_ints Tryd.underlying22 Tryd.underlying23 (by kernel_rfl) hf with ⟨hcs, _⟩ | ⟨y, l, cc, zs, hcs, _, hl, hm, hz, _, hcell, hwz⟩
  · simp [Value.cells] at hcs
    obtain ⟨rfl, rfl, rfl⟩ := hcs
    exact ⟨[], RS_nil _ _, by simp⟩
  · simp [Value.cells] at hcs
    obtain ⟨rfl, rfl, rfl⟩ := hcs
    simp only [if_true] at hz
    have hsp : 0 < c → y.spot = none := fun h0 => by
      have hc := hcell 0 (by omega)
      rw [show y.add 0 = y from rfl] at hc
      unfold World.cell? at hc
      split at hc
      · split at hc
        · cases hc
        · next h1 => simpa using h1
      · cases hc
    refine ⟨(zs.take n).map (fun z => z.toNat), ⟨?_, hl, hm, ?_, (fun h => by cases h), fun ad had => ?_⟩, ?_⟩
    · simp [US, List.length_take]; omega
    · intro v hv
      simp only [US, List.mem_map] at hv
      obtain ⟨q, _, rfl⟩ := hv
      rfl
    · cases had
      refine ⟨hsp, fun j v hv => ?_⟩
      unfold US at hv
      rw [List.getElem?_map, List.getElem?_map] at hv
      have hj : j < n := by
        rcases Nat.lt_or_ge j n with h | h
        · exact h
        · rw [List.getElem?_eq_none (by rw [List.length_take]; omega)] at hv; cases hv
      have hjz : j < zs.length := by omega
      have hc := hcell j hjz
      rw [add_plain (hsp (by omega))] at hc
      rw [hc]
      rw [List.getElem?_take, if_pos hj, List.getElem?_eq_getElem hjz] at hv
      simp only [Option.map_some, Option.some.injEq] at hv
      subst hv
      have hb := bounds_u64 (hwz zs[j] (List.getElem_mem hjz))
      simp only [u64, List.getD, List.getElem?_eq_getElem hjz, Option.getD_some]
      congr 2
      omega
    · intro x hx
      obtain ⟨z, hzm, rfl⟩ := List.mem_map.1 hx
      have hb := bounds_u64 (hwz z (List.mem_of_mem_take hzm))
      omega
theorem num64_in {H : Type} {enc : TypeId × Value → H} {W : World} {base : Nat} {v : Value} {x : DataW H} {p : List MemPlace} (hok : Value.okWide Tryd.prog W .any base 23 v) (h : ∃ fuel, DataW.trod enc Tryd.prog W 0 (fun _ => true) true fuel 23 (Value.cells v).toList = some (x, p)) :
    ∃ n : Nat, v = .int .u64 (n : Int) ∧ n < 18446744073709551616 := by
  obtain ⟨n, rfl⟩ := okWide_int Tryd.underlying23 hok
  obtain ⟨fuel, hf⟩ := h
  obtain ⟨m, hm, _, hw⟩ := DataW.trod_int Tryd.underlying23 hf
  simp only [Value.cells, List.cons.injEq, Value.int.injEq, true_and, and_true] at hm
  subst hm
  have hb := bounds_u64 hw
  obtain ⟨k, rfl⟩ := Int.eq_ofNat_of_zero_le hb.1
  exact ⟨k, rfl, by omega⟩
theorem own : ownKnob Tryd.prog.godebug = none := by kernel_rfl
theorem laidOut : laidOutB Tryd.prog = true := by kernel_rfl
end Go.Proofs.YtokgpnkooigamaaDoor
