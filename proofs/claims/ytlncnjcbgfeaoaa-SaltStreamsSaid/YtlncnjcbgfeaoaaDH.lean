/- the reference's Mask. -/
import Derived.Test.YtlncnjcbgfeaoaaDG
import Derived.Deep.QuietTactic
import Derived.BigQuiet
set_option maxRecDepth 100000
set_option linter.unusedVariables false
namespace Go.Proofs.Ytlncnjcbgfeaoaa
open Go.RowKit
set_option maxHeartbeats 4000000 in
theorem rmask_any (w : World) {a b : Option Addr} {n c m e : Nat} {key sample d : List UInt8} (hk : BS w a n c key) (hs : BS w b m e sample) (hkl : key.length = 32) (hsl : sample.length = 16) (hD : ST key (sample.drop 4) (le4 sample) d) :
    Calls Try.prog 22 #[.slice a n c, .slice b m e] w fun x w' => ∃ a' c', x = .returned (.slice a' 5 c') ∧ OW w' w.heap.size 5 1 a' 5 c' ((d.take 5).map B) ∧ Below w.heap.size w w' := by
  have hml := BS.len hs
  have hm16 : m = 16 := by omega
  subst hm16
  have hmc := RS.le hs
  have hmm := RS.max hs
  unfold maxLen at hmm
  obtain ⟨bb, ob, rfl, hc⟩ := BS.at_ hs (by omega)
  obtain ⟨x0, x1, x2, x3, r, hxs⟩ := drop4 sample 0 (by omega)
  rw [Nat.mul_zero, List.drop_zero] at hxs
  have q0 := hc 0 x0 (by rw [hxs]; rfl)
  have q1 := hc 1 x1 (by rw [hxs]; rfl)
  have q2 := hc 2 x2 (by rw [hxs]; rfl)
  have q3 := hc 3 x3 (by rw [hxs]; rfl)
  have t0 := x0.toNat_lt
  have t1 := x1.toNat_lt
  have t2 := x2.toNat_lt
  have t3 := x3.toNat_lt
  rw [Nat.add_zero] at q0
  have hle : le4 sample = x0.toNat + 256 * x1.toNat + 65536 * x2.toNat + 16777216 * x3.toNat := by rw [hxs]; rfl
  obtain ⟨q, hq⟩ : ∃ q, le4 sample = q := ⟨_, rfl⟩
  rw [hq] at hD hle
  have hq32 : q < 4294967296 := by omega
  have hqi : (x0.toNat : Int) + 256 * (x1.toNat : Int) + 65536 * (x2.toNat : Int) + 16777216 * (x3.toNat : Int) = (q : Int) := by omega
  have hs4 : (sample.drop 4).length = 12 := by rw [List.length_drop]; omega
  obtain ⟨b4, hb4, hsl4⟩ := runB_l hs 4 (by omega)
  have Hblk := Lib.hid (fun k => rblock_any (w.drewN k) (RS.drewN hk k) (RS.drewN hb4 k) hkl hs4 q hq32 hD)
  have hsl5 : ∀ W, (Instr.slice 23 (.slice (some ⟨bb, ob, none⟩) 16 e) (some (.int .i64 4)) none none).run Try.prog W = .ok (.slice b4 12 (e - 4)) W := hsl4
  have Hqi := Lib.hid hqi
  clear hc hxs hle hqi hq hs hk hb4 hsl4
  go_enter Try.func22, Try.ntmps22
  go_upto_region 1 with (fail)
  go_quiet (fail)
  rw [Hqi.out]
  clear q0 q1 q2 q3
  have hb0 : Below w.heap.size w (w.drewN nq) := below_drewN (Below.refl _ _) nq
  clear t0 t1 t2 t3 hD hsl hs4
  go_wp2_with (first
    | (go_at_call 36; refine (Hblk.out _).mono ?_; rintro x w6 ⟨a6, c6, rfl, o6, B6⟩)
    | (refine LB_slice_h tB o6.rs 5 _ _ rfl rfl _ _ rfl rfl rfl (by omega) ?_; intro h5))
  have hh := o6.head 5 (by omega)
  rw [Nat.mul_one, ← List.map_take] at hh
  go_ret
  exact ⟨_, _, rfl, hh, hb0.trans B6⟩
end Go.Proofs.Ytlncnjcbgfeaoaa
