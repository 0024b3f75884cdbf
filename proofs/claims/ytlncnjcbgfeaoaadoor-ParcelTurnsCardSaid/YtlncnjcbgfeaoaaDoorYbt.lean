/- law06.ParcelTurns: its walk. -/
import Derived.Test.YtlncnjcbgfeaoaaDoorYbp
import Derived.Test.YtlncnjcbgfeaoaaDoorYbs
import Derived.Test.YtlncnjcbgfeaoaaDoorYay
import Derived.Test.YtlncnjcbgfeaoaaDoorYba
import Derived.Lib.SmallJoins
set_option maxRecDepth 100000
set_option linter.unusedVariables false
namespace Go.Proofs.YtlncnjcbgfeaoaaDoor
open Go.RowKit Go.Joins
def toS : List UInt8 := [49, 50, 51, 52, 53, 54, 55, 56]
/-- a short head's bytes, as Close wants them -/
theorem hby_short (w : World) {a : Option Addr} {c : Nat} {t : List UInt8} (ph : Bool) (pn S L : Nat) (hp : pn < 18446744073709551616) (h1 : 1 ≤ S) (h4 : S ≤ 4) (htl : t.length = 8) (ht : BS w a 8 c t) :
    HBy w (.agg #[.bool false, .int .i64 2, .bool ph, .slice a 8 c, .slice none 0 0]) pn S L (bytesShort ph t S pn) := by
  unfold HBy
  have hl : (bytesShort ph t S pn).length = 1 + 8 + S := by unfold bytesShort; simp [beB_len, htl]; omega
  rw [hl]
  exact pb_short (lv := 2) (left := (L : Int)) (m := 0) (f := []) hp S h1 h4 (by omega) rfl ht (RS_nil w 1) (by omega)
theorem GR9 : GR 8 true 9 1 9 := ⟨rfl, by decide⟩
theorem cut9 (ph : Bool) : cutS (bytesShort ph toS 1 9) ((bytesShort ph toS 1 9).length - 1) 1 = 9 := by cases ph <;> rfl
set_option maxHeartbeats 8000000 in
theorem parcelTurns_walk (W : World) {b2 : Option Addr} {n2 c2 : Nat} {sec xs : List UInt8} (hsl : sec.length = 32) (times : Nat) (htm : times < 256) (hx : BS W b2 n2 c2 xs) (hKF : KF W) (hKT : KT W) (hKG : KG W) :
    Calls Tryd.prog 7 #[.agg (sec.map B).toArray, .int .u8 (times : Int), .slice b2 n2 c2] W fun e w' => e = .returned (.bool true) ∧ Below W.heap.size W w' := by
  have hA := AB_box W 22 sec
  have hbl := below_alloc W (.cells (sec.map B).toArray 22)
  have hxl := BS.len hx
  have hKF1 := hKF.below hbl (Nat.le_refl _)
  have hKT1 := hKT.below hbl (Nat.le_refl _)
  obtain ⟨N, hN⟩ : ∃ N, min n2 100 = N := ⟨_, rfl⟩
  obtain ⟨P, hP⟩ : ∃ P, xs.take N = P := ⟨_, rfl⟩
  have hPl : P.length = N := by rw [← hP, List.length_take]; omega
  obtain ⟨ka, kb, kc, hks⟩ := KS_ex sec
  have hal := hks.ha.len
  have hbl2 := hks.hb.len
  have hcl := hks.hc.len
  have hkl := hks.len
  obtain ⟨D, hDe⟩ : ∃ D, ka ++ kb ++ kc = D := ⟨_, rfl⟩
  have Hdraw := Lib.hid (fun w' (h : KT w') => draw_any w' hsl hks h)
  rw [hDe] at hkl Hdraw
  have Hcut := Lib.hid (fun w' (h : BS w' b2 n2 c2 xs) => cutP w' h 100 100 N rfl (by omega) hN hP)
  have hi32 := Lib.hid (show (Tryd.prog.info? 22).map (·.size) = some (sec.map B).length by rw [List.length_map, hsl]; kernel_rfl)
  have hic := Lib.hid (show (Tryd.prog.info? 22).map (·.size) = some (kc.map B).length by rw [List.length_map, hcl]; kernel_rfl)
  have hi32' := i32
  have hN1 : N ≤ 100 := by omega
  obtain ⟨k, hk⟩ : ∃ k, times % 6 = k := ⟨_, rfl⟩
  have hki : (times : Int) % 6 = (k : Int) := by omega
  have hk6 : k < 6 := by omega
  have HX := Lib.hid hx
  have HKT := Lib.hid hKT
  have HKG := Lib.hid hKG
  have HDe := Lib.hid hDe
  clear hx hN hP hks hKF hKT hKG hk hDe
  go_enter Tryd.func7, Tryd.ntmps7
  go_upto_region 1 with (fail)
  generalize (World.alloc _ _) = W1 at *
  have l0 := hA.lt
  have hbs := hbl.size
  have Haw := Lib.hid (awake06 W1 hKF1 hKT1)
  have HB1 := Lib.hid hbl
  have HA1 := Lib.hid hA
  clear hbl hA hKF1 hKT1
  go_upto_region 3 with (go_at_call 8; refine Haw.out.mono ?_; rintro x w2 ⟨rfl, B2⟩)
  have hA2 := HA1.out.bl B2 l0
  have rA2 := hA2.rng
  have hb2 := HB1.out.trans (B2.mono hbs)
  have HA2 := Lib.hid hA2
  have HB2 := Lib.hid hb2
  have HKT2 := Lib.hid (HKT.out.below hb2 (Nat.le_refl _))
  have l2 := hA2.lt
  clear hA2 hb2 B2 HA1 HB1 Haw
  go_upto_region 4 with (first
    | (refine wpList_load_mid rfl _ _ rfl _ _ rfl (sec.map B) _ rA2 Tryd.underlying22 rfl hi32.out ?_)
    | (go_at_call 14; refine (Hdraw.out _ HKT2.out).mono ?_; rintro x w3 ⟨rfl, B3⟩)
    | (refine L_storeA rfl _ _ _ rfl rfl rfl (AB_zeros35 _ rfl) k76 (by simp) hkl ?_; intro w4 hD4 hg4))
  have z3 := B3.size
  have b4 : Below w2.heap.size w2 w4 := (B3.alloc z3 _).grown hg4 (by simp; omega) (fun k hk => by cases hk; exact z3)
  obtain ⟨g7, hg7⟩ : ∃ g7, w3.heap.size = g7 := ⟨_, rfl⟩
  rw [hg7] at hD4 z3 ⊢
  have l7 := hD4.lt
  have rM := (rng_parts (a := ka) (b := kb) (c := kc) (by rw [HDe.out]; exact hD4.rng) hal hbl2).2.2
  have HA4 := Lib.hid (HA2.out.bl b4 l2)
  have HB4 := Lib.hid (HB2.out.trans (b4.mono HB2.out.size))
  have HD4 := Lib.hid hD4
  clear b4 hg4 B3 hg7 hD4 rA2 HA2 HB2 HKT2 Hdraw
  go_upto_region 5 with (first
    | (refine wpList_load_mid rfl _ _ rfl _ _ rfl (kc.map B) _ rM Tryd.underlying22 rfl hic.out ?_)
    | (refine L_store32 rfl _ _ rfl rfl rfl (AB_zeros _ rfl) (by simp) hcl ?_; intro w5 hM5 hg5))
  have b5 : Below w4.heap.size w4 w5 := (below_alloc w4 _).grown hg5 (by simp) (fun k hk => by cases hk; exact Nat.le_refl _)
  obtain ⟨g8, hg8⟩ : ∃ g8, w4.heap.size = g8 := ⟨_, rfl⟩
  rw [hg8] at hM5 ⊢
  have hA5 := HA4.out.bl b5 HA4.out.lt
  have hD5 := HD4.out.bl b5 l7
  have hb5 := HB4.out.trans (b5.mono HB4.out.size)
  have l78 : g7 < g8 := by omega
  have lW7 : W.heap.size < g7 := by omega
  have hD5' : AB w5 g7 35 (ka ++ kb ++ kc) := by rw [HDe.out]; exact hD5
  clear b5 hg5 hg8 rM HA4 HB4 HD4 hD5
  have hA5' := hA5
  have hM5' := hM5
  go_wp2
  rw [hki]
  go_loopw [28] (fun s28 wr => ∃ i : Nat, i ≤ k ∧ s28 = .int .u8 (i : Int) ∧ ∃ s a b : List UInt8, s.length = 32 ∧ a.length = 32 ∧ b.length = 12 ∧ AB wr W.heap.size 22 s ∧ AB wr g7 35 (a ++ b ++ kc) ∧ AB wr g8 22 kc ∧ Below W.heap.size W wr) (fun s28 _ => k - (intOf s28).toNat)
  case atStart => exact ⟨0, by omega, rfl, sec, ka, kb, hsl, hal, hbl2, hA5', hD5', hM5', hb5⟩
  case round =>
    obtain ⟨i, hi, rfl, s, a, b, hsL, haL, hbL, hA, hD, hM, hB⟩ := hrel
    clear hA5' hM5' hD5' hA5 hM5 hb5
    by_cases hlt : i < k
    · obtain ⟨s', hs'⟩ := LB_ex s [113, 117, 105, 99, 32, 107, 117] 32
      obtain ⟨a', b', c', hks'⟩ := KS_ex s'
      have hs'L := hs'.len
      have rA := hA.rng
      have hsi := Lib.hid (show (Tryd.prog.info? 22).map (·.size) = some (s.map B).length by rw [List.length_map, hsL]; kernel_rfl)
      have hsi' := Lib.hid (show (Tryd.prog.info? 22).map (·.size) = some (s'.map B).length by rw [List.length_map, hs'L]; kernel_rfl)
      have hkL : (a ++ b ++ kc).length = 76 := by rw [List.length_append, List.length_append, haL, hbL, hcl]
      obtain ⟨D1, hD1⟩ : ∃ D1, a ++ b ++ kc = D1 := ⟨_, rfl⟩
      have hdr : D1.drop 44 = kc := by rw [← hD1]; exact List.drop_left' (by rw [List.length_append, haL, hbL])
      rw [hD1] at hD hkL
      have hki1 := Lib.hid (show (Tryd.prog.info? 35).map (·.size) = some (D1.map B).length by rw [List.length_map, hkL]; exact k76)
      have HKTr := Lib.hid (HKT.out.below hB (Nat.le_refl _))
      have Hnx := Lib.hid (next_any wr hsL hs' HKTr.out)
      have HA := Lib.hid hA
      have HD := Lib.hid hD
      have HM := Lib.hid hM
      have HB := Lib.hid hB
      have lA := hA.lt
      have lD := hD.lt
      have lM := hM.lt
      have Hdr := Lib.hid hdr
      have HKS := Lib.hid hks'
      clear hA hD hM hB hD1 hdr hks' hs'
      go_upto_region 8 with (first
        | (refine wpList_load_mid rfl _ _ rfl _ _ rfl (s.map B) _ rA Tryd.underlying22 rfl hsi.out ?_)
        | (go_at_call 12; refine Hnx.out.mono ?_; rintro x w6 ⟨rfl, B6⟩; have hA6 := HA.out.bl B6 lA)
        | (refine L_store32 rfl _ _ rfl rfl rfl hA6 hsL hs'L ?_; intro w7 hA7 hg7'))
      have z6 := B6.size
      have hD7 := (HD.out.bl B6 lD).grown hg7' (by simp; omega)
      have hM7 := (HM.out.bl B6 lM).grown hg7' (by simp; omega)
      have hb6 := HB.out.trans (B6.mono HB.out.size)
      have hb7 := hb6.grown hg7' hb6.size (fun k hk => by cases hk; exact Nat.le_refl _)
      have rD7 := hD7.rng
      have rA7 := hA7.rng
      have Htn := Lib.hid (turn_any w7 hkL hs'L HKS.out (HKT.out.below hb7 (Nat.le_refl _)))
      rw [Hdr.out] at Htn
      have HA7 := Lib.hid hA7
      have HD7 := Lib.hid hD7
      have HM7 := Lib.hid hM7
      have HB7 := Lib.hid hb7
      have haL' := HKS.out.ha.len
      have hbL' := HKS.out.hb.len
      have hkL' : (a' ++ b' ++ kc).length = 76 := by rw [List.length_append, List.length_append, haL', hbL', hcl]
      have l7A := hA7.lt
      have l7D := hD7.lt
      have l7M := hM7.lt
      obtain ⟨D2, hD2⟩ : ∃ D2, a' ++ b' ++ kc = D2 := ⟨_, rfl⟩
      rw [hD2] at Htn hkL'
      have HD2 := Lib.hid hD2
      clear hA7 hD7 hM7 hb6 hb7 hg7' B6 hA6 HA HD HM HB Hnx rA hD2 HKS Hdr
      go_upto_region 9 with (first
        | (refine wpList_load_mid rfl _ _ rfl _ _ rfl (D1.map B) _ rD7 Tryd.underlying35 rfl hki1.out ?_)
        | (refine wpList_load_mid rfl _ _ rfl _ _ rfl (s'.map B) _ rA7 Tryd.underlying22 rfl hsi'.out ?_)
        | (go_at_call 17; refine Htn.out.mono ?_; rintro x w8 ⟨rfl, B8⟩; have hD8 := HD7.out.bl B8 l7D)
        | (refine L_storeA rfl _ _ _ rfl rfl rfl hD8 k76 hkL hkL' ?_; intro w9 hD9 hg9))
      have hA9 := (HA7.out.bl B8 l7A).grown hg9 (by simp; omega)
      have hM9 := (HM7.out.bl B8 l7M).grown hg9 (by simp; omega)
      have hb8 := HB7.out.trans (B8.mono HB7.out.size)
      have hb9 := hb8.grown hg9 hb8.size (fun k hk => by cases hk; omega)
      rw [← HD2.out] at hD9
      have HA9 := Lib.hid hA9
      have HD9 := Lib.hid hD9
      have HM9 := Lib.hid hM9
      have HB9 := Lib.hid hb9
      clear hA9 hD9 hM9 hb8 hb9 hg9 B8 hD8 HA7 HD7 HM7 HB7 Htn rD7 rA7 HD2
      go_wp2
      go_roundw
      case rel => exact ⟨i + 1, by omega, by go_num, s', a', b', hs'L, haL', hbL', HA9.out, HD9.out, HM9.out, HB9.out⟩
      case measure => simp [intOf]; omega
    · obtain rfl : i = k := by omega
      have HAx := Lib.hid hA
      have HDx := Lib.hid hD
      have HMx := Lib.hid hM
      have HBx := Lib.hid hB
      have HKGx := Lib.hid (KG.below HKG.out hB)
      clear hA hD hM hB
      obtain ⟨D3, hD3⟩ : ∃ D3, a ++ b ++ kc = D3 := ⟨_, rfl⟩
      have hD3l : D3.length = 76 := by rw [← hD3, List.length_append, List.length_append, haL, hbL, hcl]
      have hxr := RS.below HX.out HBx.out (Nat.le_refl _)
      have HXr := Lib.hid hxr
      clear hxr
      go_upto_region 11 with (first
        | (go_at_call 9; refine (Hcut.out _ HXr.out).mono ?_; rintro x w10 ⟨a10, c10, rfl, o10, B10⟩)
        | (at_builtin; refine L_append tB (o10.alloc _) (RS_new w10 5 #[.int .u8 1, .int .u8 2, .int .u8 3] 3 rfl (by omega) (by simp [Value.oneCell'])) _ _ rfl rfl rfl rfl (by omega) (by unfold maxLen; omega) (by have := B10.size; simp; omega) ?_; intro a11 c11 w11 o11 g11))
      obtain ⟨PL, hPL⟩ : ∃ PL, P ++ [1, 2, 3] = PL := ⟨_, rfl⟩
      have hPLl : PL.length = N + 3 := by rw [← hPL, List.length_append, hPl]; rfl
      have o11' : OW w11 wr.heap.size 5 1 a11 (N + 3) c11 (PL.map B) := by rw [← hPL, List.map_append]; exact o11
      have b11 : Below wr.heap.size wr w11 := below_own (B10.alloc B10.size _) (o10.alloc _) g11 (Nat.le_refl _) (by have := B10.size; simp; omega)
      have hD11 := HDx.out.bl b11 HDx.out.lt
      have hM11 := HMx.out.bl b11 HMx.out.lt
      have hb11 := HBx.out.trans (b11.mono HBx.out.size)
      rw [hD3] at hD11
      have rD11 := hD11.rng
      have lD11 := hD11.lt
      have hiD3 := Lib.hid (show (Tryd.prog.info? 35).map (·.size) = some (D3.map B).length by rw [List.length_map, hD3l]; exact k76)
      obtain ⟨H, hH⟩ : ∃ H, bytesShort ((times : Int) % 2 == 1) toS 1 9 = H := ⟨_, rfl⟩
      have hHl : H.length = 10 := by rw [← hH]; rfl
      obtain ⟨nn, cl, m, R, hcp⟩ := CPR_ex a b kc H PL 1 9
      have hsr : readS (R ++ []) = (0, ⟨false, 2, toS, []⟩, H.length - 1, R.length) := by
        have h := hcp
        rw [← hH] at h ⊢
        exact short_read h (by decide) (by decide) rfl (by omega)
      have hbt := short_bits ((times : Int) % 2 == 1) toS 1 9 (by decide) (by decide)
      have hct := cut9 ((times : Int) % 2 == 1)
      rw [hH] at hbt hct
      have hopr := hcp.opr (behind := []) (largest := 8) (some := true) (by decide) (by decide) (by omega) (by omega) hbt.1 hsr (by rw [hct]; exact GR9)
      rw [List.append_nil] at hopr
      have hq0 : (H ++ cl).getD 0 0 = H.getD 0 0 := by rw [List.getD_eq_getElem?_getD, List.getElem?_append_left (by omega), ← List.getD_eq_getElem?_getD]
      have hps : phS false (H ++ cl) = ((times : Int) % 2 == 1) := by
        have := hbt.2.2
        unfold phS at this ⊢
        rw [hq0]; exact this
      have hrs : restN ((H ++ cl).getD 0 0).toNat = 0 := by rw [hq0]; exact hbt.2.1
      have hct2 : cutS (H ++ cl) (H.length - 1) 1 = 9 := by
        rw [← hct]; unfold cutS
        rw [List.drop_append_of_le_length (by omega), List.take_append_of_le_length (by rw [List.length_drop]; omega)]
      have HO11 := Lib.hid o11'
      have Hclose := Lib.hid (fun (w' : World) (a0 : Option Addr) (n0 c0 : Nat) (h : BS w' a0 n0 c0 PL) (hn0 : n0 = N + 3) (g0 : Nat) (c1 : Nat) (ht : BS w' (some ⟨g0, 0, none⟩) 8 c1 toS) => pclose_any w' (S := 1) (pn := 9) (H := H) (l := false) (lv := 2) (ph := ((times : Int) % 2 == 1)) (ta := some ⟨g0, 0, none⟩) (tn := 8) (tc := c1) (fa := none) (fn := 0) (fc := 0) haL hbL hcl h (by omega) (by decide) (by decide) (by decide) (by omega) (by omega) (by omega)
        (fun w'' hb => by rw [← hH]; exact hby_short w'' _ 9 1 (n0 + 16) (by decide) (by decide) (by decide) rfl (RS.below ht hb (Nat.le_refl _))) hcp)
      rw [hD3] at Hclose
      have HOPR := Lib.hid hopr
      have HRl := Lib.hid (show R.length ≤ 200 by have := hcp.len; omega)
      have HM11 := Lib.hid hM11
      have HB11 := Lib.hid hb11
      have HD11 := Lib.hid hD11
      have HKG11 := Lib.hid (KG.below HKGx.out b11)
      have Hps := Lib.hid hps
      have Hrs := Lib.hid hrs
      have Hct2 := Lib.hid hct2
      have HD3 := Lib.hid hD3
      clear o11 o11' o10 g11 B10 b11 hM11 hb11 hPL hH hcp hsr hbt hct hopr hq0 hps hrs hct2 hD11 hD3 HAx HDx HMx HBx HKGx HXr
      have v1 := run_convert_bytes_const_at (P := Tryd.prog) w11 23 5 #[.int .u8 49, .int .u8 50, .int .u8 51, .int .u8 52, .int .u8 53, .int .u8 54, .int .u8 55, .int .u8 56] 8 8 w11.heap.size rfl Tryd.underlying23 Tryd.underlying5
      go_upto_region 12 with (first
        | (refine wpList_load_mid rfl _ _ rfl _ _ rfl (D3.map B) _ rD11 Tryd.underlying35 rfl hiD3.out ?_)
        | (go_at_call 25; refine (Hclose.out _ _ _ _ (RS.alloc HO11.out.rs _) rfl _ _ (BS_lit w11 toS #[.int .u8 49, .int .u8 50, .int .u8 51, .int .u8 52, .int .u8 53, .int .u8 54, .int .u8 55, .int .u8 56] (8, 9) rfl 8 rfl (by decide) rfl)).mono ?_; rintro x w12 ⟨a12, c12, rfl, o12, B12⟩))
      have b12 := (below_alloc w11 _).trans (B12.mono (by simp))
      have hM12 := HM11.out.bl b12 HM11.out.lt
      have rM12 := hM12.rng
      have hD12 := HD11.out.bl b12 lD11
      have HD12 := Lib.hid hD12
      have HPL12 := Lib.hid (RS.below HO11.out.rs b12 (Nat.le_refl _))
      have HB12 := Lib.hid (HB11.out.trans (b12.mono HB11.out.size))
      have HKG12 := Lib.hid (KG.below HKG11.out b12)
      have HR12 := Lib.hid o12.rs
      have hpk := peek_ok w12 hcl o12.rs HKG12.out (by have := o12.rs.max; have := o12.rs.le; unfold maxLen at *; have := HRl.out; omega) HOPR.out.bar
      dsimp only at hpk
      rw [Hps.out, Hct2.out] at hpk
      have Hpk := Lib.hid hpk
      have lD12 := hD12.lt
      clear hM12 hD12 b12 o12 B12 hpk HM11 HD11 HO11 HB11 HKG11 Hclose v1 rD11
      go_upto_region 13 with (first
        | (refine wpList_load_mid rfl _ _ rfl _ _ rfl (kc.map B) _ rM12 Tryd.underlying22 rfl hic.out ?_)
        | (go_at_call 22; refine Hpk.out.mono ?_; rintro x w13 ⟨ta, tn, tc, fa, fn, fc, rfl, hT13, hF13, B13⟩))
      have z13 := B13.size
      have b14 := B13.alloc z13 (.cells #[.bool false, .int .i64 2, .bool ((times : Int) % 2 == 1), .slice ta tn tc, .slice fa fn fc] 43)
      have hH14 : HB (w13.alloc (.cells #[.bool false, .int .i64 2, .bool ((times : Int) % 2 == 1), .slice ta tn tc, .slice fa fn fc] 43)) w13.heap.size false 2 ((times : Int) % 2 == 1) (.slice ta tn tc) (.slice fa fn fc) := heap_alloc_new w13 _
      generalize (World.alloc _ _) = w14 at *
      obtain ⟨gp, hgp⟩ : ∃ gp, w13.heap.size = gp := ⟨_, rfl⟩
      rw [hgp] at hH14 z13 ⊢
      have lgp := hH14.lt
      have hD14 := HD12.out.bl b14 lD12
      have rD14 := hD14.rng
      have HH14 := Lib.hid hH14
      have HPL14 := Lib.hid (RS.below HPL12.out b14 (Nat.le_refl _))
      have HB14 := Lib.hid (HB12.out.trans (b14.mono HB12.out.size))
      have hopn := popen_ok w14 (a := a12) (n := R.length) (c := c12) (by decide) haL hbL hcl (RS.below HR12.out b14 (Nat.le_refl _)) (KG.below HKG12.out b14) (by have := HRl.out; omega) HOPR.out
      rw [HD3.out] at hopn
      have Hopn := Lib.hid hopn
      clear hT13 hF13 B13 b14 hgp hH14 hD14 hopn HD12 HPL12 HB12 HKG12 HR12 Hpk rM12
      go_upto_region 14 with (first
        | (refine wpList_load_mid rfl _ _ rfl _ _ rfl (D3.map B) _ rD14 Tryd.underlying35 rfl hiD3.out ?_)
        | (go_at_call 19; refine Hopn.out.mono ?_; rintro x w15 ⟨hO15, B15⟩; rcases hO15 with ⟨h, _⟩ | ⟨_, h, _⟩ | ⟨_, _, ta2, tn2, tc2, fa2, fn2, fc2, a15, c15, a16, c16, rfl, _, _, h15, _⟩; exact absurd rfl h; exact absurd Hrs.out h))
      have z15 := B15.size
      have b16 := B15.alloc z15 (.cells #[.bool false, .int .i64 2, .bool (phS false (H ++ cl)), .slice ta2 tn2 tc2, .slice fa2 fn2 fc2] 43)
      have h16 := RS.alloc h15 (.cells #[.bool false, .int .i64 2, .bool (phS false (H ++ cl)), .slice ta2 tn2 tc2, .slice fa2 fn2 fc2] 43)
      generalize (World.alloc _ _) = w16 at *
      have hH16 := HH14.out.grown (grown_of_below (row := none) b16) (by simp)
      have c0 := hH16.cells
      have hb16 := HB14.out.trans (b16.mono HB14.out.size)
      rw [hPLl] at h16
      have hsm := same_any w16 h16 (RS.below HPL14.out b16 (Nat.le_refl _))
      rw [beq_self_eq_true] at hsm
      have Hsm := Lib.hid hsm
      have HB16 := Lib.hid hb16
      clear h15 h16 hsm hb16 hH16 B15 b16 HH14 HPL14 HB14 Hopn rD14
      go_wp2_with (go_at_call 15; (with_reducible refine Hsm.out.mono ?_); rintro x w17 ⟨rfl, rfl⟩)
      go_ret
      exact ⟨rfl, HB16.out⟩
end Go.Proofs.YtlncnjcbgfeaoaaDoor
