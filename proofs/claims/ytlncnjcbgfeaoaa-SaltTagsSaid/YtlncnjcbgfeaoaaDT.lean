/- law03.SaltTags: its walk. -/
import Derived.Test.YtlncnjcbgfeaoaaDU
import Derived.Test.YtlncnjcbgfeaoaaDD
import Derived.Deep.RegionHeld3
set_option maxRecDepth 100000
set_option linter.unusedVariables false
namespace Go.Proofs.Ytlncnjcbgfeaoaa
open Go.RowKit
set_option maxHeartbeats 4000000 in
theorem saltTags_walk (W : World) {b1 : Option Addr} {n1 c1 : Nat} {key xs : List UInt8} (hkl : key.length = 32) (hx : BS W b1 n1 c1 xs) :
    Calls Try.prog 3 #[.agg (key.map B).toArray, .slice b1 n1 c1] W fun e w' => e = .returned (.bool true) ∧ Below W.heap.size W w' := by
  have hA := AB_box W 22 key
  have hbl := below_alloc W (.cells (key.map B).toArray 22)
  have hx1 := RS.alloc hx (.cells (key.map B).toArray 22)
  have hxl := BS.len hx
  have hi32 := Lib.hid (show (Try.prog.info? 22).map (·.size) = some (key.map B).length by rw [List.length_map, hkl]; kernel_rfl)
  obtain ⟨N, hN⟩ : ∃ N, min n1 300 = N := ⟨_, rfl⟩
  obtain ⟨P, hP⟩ : ∃ P, xs.take N = P := ⟨_, rfl⟩
  have hPl : P.length = N := by rw [← hP, List.length_take]; omega
  obtain ⟨T, hT⟩ := TG_ex key P
  have hTl := hT.len
  have Hcut := Lib.hid (fun w' (h : BS w' b1 n1 c1 xs) => cutP w' h 300 300 N rfl (by omega) hN hP)
  have HT := Lib.hid hT
  have hN3 : N ≤ 300 := by omega
  clear hx hN hP hT
  go_enter Try.func3, Try.ntmps3
  go_upto_region 1 with (fail)
  generalize (World.alloc _ _) = W1 at *
  have l0 := hA.lt
  have hbs := hbl.size
  go_upto_region 5 with (first
    | (go_at_call 9; refine (awake03 _).mono ?_; rintro x w2 ⟨rfl, B2⟩)
    | (go_at_call 10; refine (Hcut.out _ (RS.below hx1 B2 (Nat.le_refl _))).mono ?_; rintro x w3 ⟨a3, c3, rfl, o3, B3⟩)
    | (go_at_call 11; refine (copyP _ o3.rs (by omega)).mono ?_; rintro x w4 ⟨a4, c4, rfl, o4, B4⟩)
    | (at_builtin; refine L_append tB (o4.alloc _) (RS_one _ _ _ rfl) _ _ rfl rfl rfl rfl (by omega) (by unfold maxLen; omega) (by have := B4.size; simp; omega) ?_; intro a5 c5 w5 o5 g5)
    | (refine L_slice_h tB o5.rs N _ _ rfl rfl _ _ rfl rfl rfl (by omega) ?_; intro hq0))
  have b5 : Below w3.heap.size w3 w5 := below_own (B4.alloc B4.size _) (o4.alloc _) g5 (Nat.le_refl _) (by have := B4.size; simp; omega)
  obtain ⟨gq, rfl⟩ : ∃ g, a5 = some ⟨g, 0, none⟩ := by
    rcases o5.shape with ⟨_, h, _⟩ | ⟨g, cur, h1, _⟩
    · omega
    · exact ⟨g, h1⟩
  have hQ5 : QS w5 w3.heap.size gq N c5 P := ⟨o5, hPl⟩
  have b25 := btr B3 b5
  have hA2 := hA.bl B2 l0
  have k0 : W.heap.size < w2.heap.size := Nat.lt_of_lt_of_le l0 B2.size
  have hA5 := hA2.bl b25 k0
  have hb5 := (hbl.trans (B2.mono hbs)).trans (b25.mono (Nat.le_trans hbs B2.size))
  have hp5 : BS w5 a3 N c3 P := o3.rs.below b5 (Nat.le_refl _)
  have rA := hA5.rng
  have l5 := hA5.lt
  have z5 := hb5.size
  have Htag := Lib.hid (tag_any w5 hkl hQ5.bs (by omega) HT.out)
  have HQ5 := Lib.hid hQ5
  have HA5 := Lib.hid hA5
  have HB5 := Lib.hid hb5
  have HP5 := Lib.hid hp5
  clear hq0 g5 o5 o4 B4 o3 B3 B2 hA hbl hx1 b5 b25 hA2 hA5 hb5 hp5 hQ5 Hcut
  go_upto_region 6 with (first
    | (refine wpList_load_mid rfl _ _ rfl _ _ rfl (key.map B) _ rA Try.underlying22 rfl hi32.out ?_)
    | (go_at_call 12; refine Htag.out.mono ?_; rintro x w6 ⟨rfl, B6⟩)
    | (refine L_storeAB rfl _ _ _ rfl rfl rfl (show AB (w6.alloc _) w6.heap.size 27 z16 from heap_alloc_new w6 _) i16 (by simp [z16]) hTl ?_; intro w7 hT7 hg7))
  have z6 := B6.size
  have b7 : Below w5.heap.size w5 w7 := (B6.alloc z6 _).grown hg7 (by simp; omega) (fun k hk => by cases hk; exact z6)
  have hA7 := HA5.out.bl b7 l5
  have hp7 := RS.below HP5.out b7 (Nat.le_refl _)
  have hQ7 : QS w7 w3.heap.size gq N c5 P := ⟨HQ5.out.own.below b7 (Nat.le_refl _), hPl⟩
  have hb7 := HB5.out.trans (b7.mono z5)
  obtain ⟨gt, hgt⟩ : ∃ gt, w6.heap.size = gt := ⟨_, rfl⟩
  rw [hgt] at hT7 ⊢
  have lt7 := hT7.lt
  have hTw := hT7.whole (n := 16) hTl (by omega)
  have hkw := hA7.whole (n := 32) hkl (by omega)
  have hcell := hQ7.cell
  have hroom := hQ7.room
  have lq7 := (hQ7.own.base_le rfl).2
  have hsl := runB_hc (some ⟨gq, 0, none⟩) N c5 (N + 1) hroom
  obtain ⟨N1, hN1⟩ : ∃ N1, N + 1 = N1 := ⟨_, rfl⟩
  have hN1i : (N : Int) + 1 = (N1 : Int) := by omega
  rw [hN1] at hsl hroom
  have HTR := Lib.hid (rtag_any w7.drew (RS.drew hkw) (RS.drew hp7) (Nat.le_refl _) (by omega) HT.out)
  have HTw := Lib.hid (RS.drew hTw)
  have HQ7 := Lib.hid (RS.drew hQ7.bs)
  have HP7 := Lib.hid (RS.drew hp7)
  have HB7 := Lib.hid hb7
  have Hcell := Lib.hid hcell
  have hNm : (N : Int) < (N1 : Int) := by omega
  have hw1 : IntKind.i64.wrap (N1 : Int) = (N1 : Int) := IntWalk.i64_in _ (by omega)
  have hw2 : (0 : Int) ≤ (N1 : Int) := by omega
  have hw3 : (N1 : Int) ≤ (c5 : Int) := by omega
  have hw4 : (0 : Int) ≤ (N : Int) := by omega
  have hcmx : c5 ≤ 9223372036854775807 := by have := HQ5.out.own.rs.max; unfold maxLen at this; omega
  clear B6 hg7 b7 hA7 hp7 hQ7 hb7 hgt hT7 hTw hkw hN1 Htag HA5 HB5 HP5 rA
  go_region_held3 (fun w' => w'.cell? ⟨gq, N, none⟩ = some (.int .u8 165))
    (first | go_keep | exact k1)
    (first
    | (go_at_call 14; (with_reducible refine HTR.out.mono ?_); rintro x w8 ⟨a8, c8, rfl, o8, B8⟩; have k1 : w8.cell? ⟨gq, N, none⟩ = some (.int .u8 165) := (B8.cell (p := ⟨gq, N, none⟩) lq7).trans Hcell.out; have hs1 := same_any w8 (RS.below HTw.out B8 (Nat.le_refl _)) o8.rs; have hs2 := same_any w8 (RS.below HQ7.out B8 (Nat.le_refl _)) (RS.below HP7.out B8 (Nat.le_refl _)); rw [beq_self_eq_true] at hs1 hs2)
    | (go_at_call 13; (with_reducible refine hs1.mono ?_); rintro x w9 ⟨rfl, rfl⟩)
    | (go_at_call 13; (with_reducible refine hs2.mono ?_); rintro x w9 ⟨rfl, rfl⟩))
  have hb8 := HB7.out.drew.trans (B8.mono HB7.out.size)
  go_wp2
  go_ret
  exact ⟨rfl, hb8⟩
end Go.Proofs.Ytlncnjcbgfeaoaa
