/- TalkNil: its walk. -/
import Derived.Test.YtokgpnkooigamaaDoorLF
set_option maxRecDepth 100000
set_option linter.unusedVariables false
namespace Go.Proofs.YtokgpnkooigamaaDoor
open Go.RowKit
theorem results_row1s {P : Program} {fn : Func} {p : Tmp} {s : Nat} {ty : TypeId} (h : fn.results = #[.cell p ty, .tmp s]) (tmps : Array Value) (w : World) (g : Nat) (t : TypeId) (cs : Array Value) (d : TypeDesc)
    (hp : tmps.getD p undef = .pointer (some ⟨g, 0, none⟩)) (hg : w.heap[g]? = some (.cells cs t (0, 0)))
    (hu : P.underlying ty = some d) (hd : (match d with | .struct _ | .array _ _ => true | _ => false) = true) (hi : (P.info? ty).map (·.size) = some cs.size) :
    (results fn tmps).run P w = .ok (.tuple #[.agg cs, tmps.getD s undef]) w := by
  have hp' : tmps[p]?.getD undef = .pointer (some ⟨g, 0, none⟩) := by simpa using hp
  simp [results, h, hp', asAddr, run_loadVar_row w g t ty cs _ d hg hu hd hi, Result.andThen]
def Z17 : List Value := [.int .u64 0, .int .u64 0, .int .u64 0, .slice none 0 0, .int .u8 0, .int .u8 0, .int .u64 0, .int .u64 0, .int .u64 0, .int .u64 0, .bool false, .int .u64 0, .slice none 0 0, .int .u64 0, .int .u64 0, .slice none 0 0, .int .i64 0]
set_option maxHeartbeats 4000000 in
theorem say_nil (w : World) (m : MG) (s : ML) : Calls Tryd.prog 13 #[.pointer none, .agg (mgc m s).toArray] w fun e w' => e = .returned (.tuple #[.agg Z16.toArray, .int .i64 6]) ∧ Below w.heap.size w w' := by
  have hb1 := below_alloc w (.cells (mgc m s).toArray 31)
  have hb2 := below_alloc (w.alloc (.cells (mgc m s).toArray 31)) (.cells Z16.toArray 31)
  have hr := CR.new (w.alloc (.cells (mgc m s).toArray 31)) 31 Z16
  obtain ⟨k, hk⟩ : ∃ k, w.heap.size = k := ⟨_, rfl⟩
  rw [show (w.alloc (.cells (mgc m s).toArray 31)).heap.size = k + 1 by simp [hk]] at hr
  have HB := Lib.hid (btr hb1 hb2)
  have HR := Lib.hid hr
  have HKK := Lib.hid hk
  clear hb1 hb2 hr
  unfold mgc u64 SA.v Z16 at *
  go_enter Tryd.func13, Tryd.ntmps13
  go_wp2_with (refine L_storeRow (old := Z16) (new := Z16) rfl 31 _ _ rfl rfl rfl HR.out iMsg rfl rfl (by simp [Z16, Value.oneCell']) ?_; intro W6 hz hg3)
  refine bodyPost_ret_by (results_row1s rfl _ _ _ _ _ _ rfl hz Tryd.underlying31 rfl iMsg) rfl ?_
  exact ⟨rfl, HB.out.grown hg3 HB.out.size (fun j hj => by cases hj; have := HKK.out; omega)⟩
set_option maxHeartbeats 4000000 in
theorem find_nil (w : World) (id : Nat) : Calls Tryd.prog 17 #[.pointer none, .int .u64 (id : Int)] w fun e w' => e = .returned (.tuple #[.agg Z17.toArray, .bool false]) ∧ Below w.heap.size w w' := by
  have hb1 := below_alloc w (.cells Z17.toArray 49)
  have hr := CR.new w 49 Z17
  obtain ⟨k, hk⟩ : ∃ k, w.heap.size = k := ⟨_, rfl⟩
  rw [hk] at hr
  have HB := Lib.hid hb1
  have HR := Lib.hid hr
  have HKK := Lib.hid hk
  clear hb1 hr
  unfold Z17 at *
  go_enter Tryd.func17, Tryd.ntmps17
  go_wp2_with (refine L_storeRow (old := Z17) (new := Z17) rfl 49 _ _ rfl rfl rfl HR.out iAsk rfl rfl (by simp [Z17, Value.oneCell']) ?_; intro W6 hz hg3)
  refine bodyPost_ret_by (results_row1s rfl _ _ _ _ _ _ rfl hz Tryd.underlying49 rfl iAsk) rfl ?_
  exact ⟨rfl, HB.out.grown hg3 HB.out.size (fun j hj => by cases hj; have := HKK.out; omega)⟩
end Go.Proofs.YtokgpnkooigamaaDoor
