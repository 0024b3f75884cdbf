/- ring.Extract. -/
import Derived.Test.YtlncnjcbgfeaoaaDoorG9
set_option maxRecDepth 100000
set_option linter.unusedVariables false
namespace Go.Proofs.YtlncnjcbgfeaoaaDoor
open Go.RowKit Go.Joins
theorem extract_any (w : World) {a0 a1 : Option Addr} {n0 c0 n1 c1 : Nat} {salt key : List UInt8} (hs : BS w a0 n0 c0 salt) (hk : BS w a1 n1 c1 key) (h0 : n0 ≤ 549755813888) (h1 : n1 ≤ 549755813888) (hK : KT w) :
    Calls Tryd.prog 27 #[.slice a0 n0 c0, .slice a1 n1 c1] w fun e w' => e = .returned (.agg ((macS salt key).map B).toArray) ∧ Below w.heap.size w w' := by
  have hl := BS.len hk
  have hZ := AB_zeros w rfl
  have hps := PS_one (g := w.heap.size + 1) (by simp) (RS.alloc hk (.cells #[.int .u8 0, .int .u8 0, .int .u8 0, .int .u8 0, .int .u8 0, .int .u8 0, .int .u8 0, .int .u8 0, .int .u8 0, .int .u8 0, .int .u8 0, .int .u8 0, .int .u8 0, .int .u8 0, .int .u8 0, .int .u8 0, .int .u8 0, .int .u8 0, .int .u8 0, .int .u8 0, .int .u8 0, .int .u8 0, .int .u8 0, .int .u8 0, .int .u8 0, .int .u8 0, .int .u8 0, .int .u8 0, .int .u8 0, .int .u8 0, .int .u8 0, .int .u8 0] 22))
  have hfl : [key].flatten.length ≤ 1099511627776 - 200 := by simp; omega
  have Hfl := Lib.hid hfl
  have HK := Lib.hid hK
  have Hps := Lib.hid hps
  have HZ := Lib.hid hZ
  clear hfl hK hps hZ
  have hi32 : (Tryd.prog.info? 22).map (·.size) = some ((macS salt key).map B).toArray.size := by rw [List.size_toArray, List.length_map, show (macS salt key).length = 32 from shaS_len _]; kernel_rfl
  have Hi := Lib.hid hi32
  clear hi32
  go_enter Tryd.func27, Tryd.ntmps27
  go_wp2_with (first
    | (go_at_call 48; refine (mac_any _ [key] (RS.alloc (RS.alloc hs _) _) Hps.out Hfl.out (by omega) (by omega) ((HK.out.alloc _).alloc _)).mono ?_; rintro e w5 ⟨rfl, hB5⟩; rw [show [key].flatten = key from by simp])
    | (refine L_store32 rfl _ _ rfl rfl rfl (AB.grown ((hB5.block w.heap.size (by simp; omega)).trans ((Below.heap_alloc _ _ _ (by simp)).trans HZ.out) : AB w5 w.heap.size 22 (List.replicate 32 0)) (World.grownBy.refl w5 none) (by simp)) (by simp) (shaS_len _) ?_; intro w6 hA6 hg6))
  have b5 : Below w.heap.size w w5 := ((below_alloc w _).alloc (by simp) _).trans (hB5.mono (by simp; omega))
  refine bodyPost_ret_by (results_cell_row rfl _ _ _ _ _ _ _ rfl hA6 Tryd.underlying22 rfl Hi.out) rfl ⟨rfl, ?_⟩
  exact b5.grown hg6 b5.size (fun k hk => by cases hk; exact Nat.le_refl _)
end Go.Proofs.YtlncnjcbgfeaoaaDoor
