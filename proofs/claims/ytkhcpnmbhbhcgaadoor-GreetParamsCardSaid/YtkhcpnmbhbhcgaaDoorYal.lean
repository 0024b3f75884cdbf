/- what the laws of ring share: how arguments and the laid table come in. -/
import Derived.Test.YtkhcpnmbhbhcgaaDoorYak
import Derived.Test.YtkhcpnmbhbhcgaaDoorCards
import Derived.Test.YtkhcpnmbhbhcgaaDoorTie
import Derived.ProofKit
import Derived.OpenShut
import Derived.ShutString
import Derived.ChangeOld
import Derived.Deep.DeepHandedRow
import Derived.Lib.LaidTab
set_option maxRecDepth 100000
set_option linter.unusedVariables false
namespace Go.Proofs.YtkhcpnmbhbhcgaaDoor
open Go.ChangeShapes Go.WideShapes Go.ChangeAt Go.RowKit
theorem own : ownKnob Tryd.prog.godebug = none := by kernel_rfl
theorem laidOut : laidOutB Tryd.prog = true := by kernel_rfl
theorem spot_of {P : Program} {W : World} {base : Nat} {t e : TypeId} {x : Addr} {l c : Nat} (hu : P.underlying t = some (.slice e)) (h : Value.okWide P W .any base t (.slice (some x) l c)) : x.spot = none := by
  simp only [Value.okWide, hu, Cell.okWide, Cell.ok, World.has] at h
  exact h.2.2.2.1
/-- a slice of bytes that came in reads as bytes -/
theorem bytes_cell {H : Type} {enc : TypeId × Value → H} {W : World} {a : Option Addr} {n c : Nat} {x : DataW H × List MemPlace}
    (h : ∃ fuel, DataW.trod enc Tryd.prog W 0 (fun _ => true) true fuel 22 [.slice a n c] = some x) : ∃ xs : List UInt8, BS W a n c xs := by
  obtain ⟨fuel, hf⟩ := h
  rcases open_ints Tryd.underlying22 Tryd.underlying5 (by kernel_rfl) hf with ⟨hcs, _⟩ | ⟨y, l, cc, zs, hcs, _, hl, hm, hz, _, hcell, hwz⟩
  · simp at hcs
    obtain ⟨rfl, rfl, rfl⟩ := hcs
    exact ⟨[], RS_nil _ _⟩
  · simp at hcs
    obtain ⟨rfl, rfl, rfl⟩ := hcs
    simp only [if_true] at hz
    have hsp : 0 < c → y.spot = none := fun h0 => by
      have hc := hcell 0 (by omega)
      rw [show y.add 0 = y from rfl] at hc
      unfold World.cell? at hc
      split at hc
      · split at hc
        · cases hc
        · next h1 => simpa using h1
      · cases hc
    refine ⟨(zs.take n).map (fun z => UInt8.ofNat z.toNat), ?_, hl, hm, one_B _, (fun h => by cases h), fun ad had => ?_⟩
    · simp [List.length_take]; omega
    · cases had
      refine ⟨hsp, fun j v hv => ?_⟩
      rw [List.getElem?_map, List.getElem?_map] at hv
      have hj : j < n := by
        rcases Nat.lt_or_ge j n with h | h
        · exact h
        · rw [List.getElem?_eq_none (by rw [List.length_take]; omega)] at hv; cases hv
      have hjz : j < zs.length := by omega
      have hc := hcell j hjz
      rw [add_plain (hsp (by omega))] at hc
      rw [hc]
      rw [List.getElem?_take, if_pos hj, List.getElem?_eq_getElem hjz] at hv
      simp only [Option.map_some, Option.some.injEq] at hv
      subst hv
      have hb := bounds_u8 (hwz zs[j] (List.getElem_mem hjz))
      simp only [B, List.getD, List.getElem?_eq_getElem hjz, Option.getD_some, UInt8.toNat_ofNat']
      congr 2
      omega
theorem bytes_in {H : Type} {enc : TypeId × Value → H} {W : World} {base : Nat} {a : Option Addr} {n c : Nat} {x : DataW H} {p : List MemPlace}
    (hok : Value.okWide Tryd.prog W .any base 22 (.slice a n c)) (h : ∃ fuel, DataW.trod enc Tryd.prog W 0 (fun _ => true) true fuel 22 (Value.cells (.slice a n c)).toList = some (x, p)) : ∃ xs : List UInt8, BS W a n c xs :=
  bytes_cell h
theorem gR : Tryd.prog.globalNamed "colonnade/ring.round" = some 3 := by kernel_rfl
theorem gRType : (Tryd.prog.globals[3]?).map (·.type) = some 135 := by kernel_rfl
theorem cellsR : Tryd.prog.cellsOf 135 = 64 := by kernel_rfl
theorem cellsU : Tryd.prog.cellsOf 105 = 1 := by kernel_rfl
theorem kS_lit : kS.map (fun (x : Nat) => (x : Int)) = [1116352408, 1899447441, 3049323471, 3921009573, 961987163, 1508970993, 2453635748, 2870763221, 3624381080, 310598401, 607225278, 1426881987, 1925078388, 2162078206, 2614888103, 3248222580, 3835390401, 4022224774, 264347078, 604807628, 770255983, 1249150122, 1555081692, 1996064986, 2554220882, 2821834349, 2952996808, 3210313671, 3336571891, 3584528711, 113926993, 338241895, 666307205, 773529912, 1294757372, 1396182291, 1695183700, 1986661051, 2177026350, 2456956037, 2730485921, 2820302411, 3259730800, 3345764771, 3516065817, 3600352804, 4094571909, 275423344, 430227734, 506948616, 659060556, 883997877, 958139571, 1322822218, 1537002063, 1747873779, 1955562222, 2024104815, 2227730452, 2361852424, 2428436474, 2756734187, 3204031479, 3329325298] := by decide +kernel
theorem rounds_in {W : World} (h : laidMetH Tryd.prog [("colonnade/ring.round", Rows.laid_colonnade_ring_round)] W) : KT W := by
  have ht : Lib.TabIs Tryd.prog W "colonnade/ring.round" .u32 [1116352408, 1899447441, 3049323471, 3921009573, 961987163, 1508970993, 2453635748, 2870763221, 3624381080, 310598401, 607225278, 1426881987, 1925078388, 2162078206, 2614888103, 3248222580, 3835390401, 4022224774, 264347078, 604807628, 770255983, 1249150122, 1555081692, 1996064986, 2554220882, 2821834349, 2952996808, 3210313671, 3336571891, 3584528711, 113926993, 338241895, 666307205, 773529912, 1294757372, 1396182291, 1695183700, 1986661051, 2177026350, 2456956037, 2730485921, 2820302411, 3259730800, 3345764771, 3516065817, 3600352804, 4094571909, 275423344, 430227734, 506948616, 659060556, 883997877, 958139571, 1322822218, 1537002063, 1747873779, 1955562222, 2024104815, 2227730452, 2361852424, 2428436474, 2756734187, 3204031479, 3329325298] := Lib.tabIs_of_head (rest := []) gR gRType Tryd.underlying135 Tryd.underlying105 cellsU cellsR h
  rw [← kS_lit] at ht
  intro j x hx
  have hj : j < kS.length := (List.getElem?_eq_some_iff.1 hx).1
  have h2 := ht.cell gR j (by rw [List.length_map]; exact hj)
  rw [h2, List.getD_eq_getElem?_getD, List.getElem?_map, hx]; rfl
end Go.Proofs.YtkhcpnmbhbhcgaaDoor
