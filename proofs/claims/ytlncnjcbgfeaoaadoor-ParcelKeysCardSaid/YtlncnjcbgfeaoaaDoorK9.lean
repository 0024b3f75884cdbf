/- law06.awake; law06.ParcelKeys: its walk. -/
import Derived.Test.YtlncnjcbgfeaoaaDoorK8
set_option maxRecDepth 100000
set_option linter.unusedVariables false
namespace Go.Proofs.YtlncnjcbgfeaoaaDoor
open Go.RowKit Go.Joins
set_option maxHeartbeats 2000000 in
theorem awake06 (w : World) (hKF : KF w) (hK : KT w) : Calls Tryd.prog 8 #[] w fun e w' => e = .returned (.bool true) ∧ Below w.heap.size w w' := by
  obtain ⟨x, a, b, hF⟩ := FS_ex nm0
  have haw := awake_first
  rw [hF.hx, hF.ha.h] at haw
  have hal := hF.ha.len
  have hn := RS_new w 5 #[.int .u8 131, .int .u8 148, .int .u8 200, .int .u8 240, .int .u8 62, .int .u8 81, .int .u8 87, .int .u8 8] 8 rfl (by omega) (by simp [Value.oneCell'])
  have hn1 : BS (w.alloc (.cells #[.int .u8 131, .int .u8 148, .int .u8 200, .int .u8 240, .int .u8 62, .int .u8 81, .int .u8 87, .int .u8 8] 5)) (some ⟨w.heap.size, 0, none⟩) 8 8 nm0 := hn
  have hb := below_alloc w (.cells #[.int .u8 131, .int .u8 148, .int .u8 200, .int .u8 240, .int .u8 62, .int .u8 81, .int .u8 87, .int .u8 8] 5)
  have HK1 := Lib.hid (hK.below hb (Nat.le_refl _))
  have HF1 := Lib.hid (hKF.below hb (Nat.le_refl _))
  have HFS := Lib.hid hF
  have Haw := Lib.hid haw
  clear hn hK hKF hF haw
  go_enter Tryd.func8, Tryd.ntmps8
  go_upto_region 2 with (first
    | (go_at_call 10; refine (first_any _ hn1 (by omega) HFS.out HF1.out HK1.out).mono ?_; rintro e w2 ⟨rfl, B2⟩)
    | (refine L_store32 rfl _ _ rfl rfl rfl (AB.grown (AB_zeros _ rfl) (World.grownBy_alloc _ _ none) (by simp)) (by simp) hal ?_; intro w3 hA3 hg3)
    | (refine L_store32 rfl _ _ rfl rfl rfl (AB.grown (AB_zeros _ (by simp)) hg3 (by simp)) (by simp) HFS.out.hb.len ?_; intro w4 hA4 hg4))
  have hA4' := AB.grown hA3 hg4 (by simp)
  have hs2 := B2.size
  have b2 := hb.trans (B2.mono hb.size)
  have z2 := b2.size
  have b3 := ((b2.alloc z2 _).alloc (by simp; omega) _).grown hg3 (by simp; omega) (by intro k hk; cases hk; exact z2)
  have z3 := hg3.size
  have b4 := b3.grown hg4 b3.size (by intro k hk; cases hk; simp at z3; omega)
  have hx4 := RS.head (hA4'.bs32 hal) 4 (by omega)
  have hx4' : BS w4 (some ⟨w2.heap.size, 0, none⟩) 4 32 (a.take 4) := by unfold BS; rw [List.map_take]; exact hx4
  rw [Haw.out] at hx4'
  have hy := RS_new w4 5 #[.int .u8 192, .int .u8 12, .int .u8 241, .int .u8 81] 4 rfl (by omega) (by simp [Value.oneCell'])
  have hy4 : BS (w4.alloc (.cells #[.int .u8 192, .int .u8 12, .int .u8 241, .int .u8 81] 5)) (some ⟨w4.heap.size, 0, none⟩) 4 4 [192, 12, 241, 81] := hy
  have hx5 := RS.alloc hx4' (.cells #[.int .u8 192, .int .u8 12, .int .u8 241, .int .u8 81] 5)
  have B5 := Lib.hid (b4.alloc b4.size (.cells #[.int .u8 192, .int .u8 12, .int .u8 241, .int .u8 81] 5))
  clear hx4 hx4' hy hA3 hA4 hA4' hg3 hg4 b3 b4
  go_wp2_with (go_at_call 15; refine (same_any _ hx5 hy4).mono ?_; rintro e w6 ⟨rfl, rfl⟩; rw [beq_self_eq_true])
  go_ret
  exact ⟨rfl, B5.out⟩
end Go.Proofs.YtlncnjcbgfeaoaaDoor
