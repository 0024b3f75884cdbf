/- the reference's Close and Open. -/
import Derived.Test.YtlncnjcbgfeaoaaDK
import Derived.Test.YtlncnjcbgfeaoaaDJ
import Derived.Test.YtlncnjcbgfeaoaaCI
import Derived.Deep.RegionHeld3
set_option maxRecDepth 100000
set_option linter.unusedVariables false
namespace Go.Proofs.Ytlncnjcbgfeaoaa
open Go.RowKit
set_option maxHeartbeats 4000000 in
theorem rclose_any (w : World) {a b o u : Option Addr} {n c m e l f r t : Nat} {key nonce p bs d : List UInt8} (hk : BS w a n c key) (hn : BS w b m e nonce) (hp : BS w o l f p) (hb : BS w u r t bs) (hkl : key.length = 32) (hnl : nonce.length = 12) (hl : l ≤ 65536) (hr : r ≤ 65536) (hD : CL key nonce p bs d) :
    Calls Try.prog 17 #[.slice a n c, .slice b m e, .slice o l f, .slice u r t] w fun x w' => ∃ a c, x = .returned (.slice a (l + 16) c) ∧ OW w' w.heap.size 5 1 a (l + 16) c (d.map B) ∧ Below w.heap.size w w' := by
  obtain ⟨X, hX⟩ := MX_ex key nonce p
  obtain ⟨T, hT⟩ := MK_ex key nonce X bs
  have hTl := hT.len
  have hres : EB (X ++ T) d := ⟨by
    have h := hD.h
    unfold closeS at h
    rw [hX.h, hT.h] at h
    exact h⟩
  have Hmx := Lib.hid (rmix_any w hk hn hp hkl hnl hl hX)
  have HK := Lib.hid hk
  have HNn := Lib.hid hn
  have HBs := Lib.hid hb
  have HT := Lib.hid hT
  clear hk hn hp hb hX hT hD
  go_enter Try.func17, Try.ntmps17
  go_wp2_with (first
    | (go_at_call 32; refine Hmx.out.mono ?_; rintro x w2 ⟨a2, c2, rfl, o2, B2⟩)
    | (go_at_call 33; refine (rmark_any w2 (RS.below HK.out B2 (Nat.le_refl _)) (RS.below HNn.out B2 (Nat.le_refl _)) o2.rs (RS.below HBs.out B2 (Nat.le_refl _)) hkl hnl (by omega) HT.out).mono ?_; rintro x w3 ⟨a3, c3, rfl, o3, B3⟩)
    | (at_builtin; refine L_append tB (o2.below B3 (Nat.le_refl _)) o3.rs _ _ rfl rfl rfl rfl (by omega) (by unfold maxLen; omega) (Nat.le_trans B2.size B3.size) ?_; intro a5 c5 w5 o5 g5))
  have hb3 := B2.trans (B3.mono B2.size)
  have hb5 := hb3.grown g5 hb3.size (row_le (fun ad ha => (o2.base_le ha).1) (Nat.le_refl _))
  rw [← List.map_append, hres.h] at o5
  go_ret
  exact ⟨a5, c5, rfl, o5, hb5⟩
theorem ropen_short (w : World) {a b o u : Option Addr} {n c m e l f r t k : Nat} {key nonce p bs d : List UInt8} (hp : BS w o l f p) (hl : l < 16) (hD : OPN key nonce p bs d k) :
    Calls Try.prog 18 #[.slice a n c, .slice b m e, .slice o l f, .slice u r t] w fun x w' => ∃ a c, x = .returned (.tuple #[.slice a d.length c, .int .i64 (k : Int)]) ∧ OW w' w.heap.size 5 1 a d.length c (d.map B) ∧ Below w.heap.size w w' := by
  have hpl := BS.len hp
  have hd := hD.h
  unfold openS at hd
  rw [if_pos (by omega)] at hd
  obtain rfl : d = [] := (congrArg Prod.fst hd).symm
  obtain rfl : k = 2 := (congrArg Prod.snd hd).symm
  clear hd hD hp hpl
  go_enter Try.func18, Try.ntmps18
  go_wp2
  go_ret2
  exact ⟨none, 0, rfl, OW_nil _ _ _ _, Below.refl _ _⟩
set_option maxHeartbeats 4000000 in
theorem ropen_any (w : World) {a b o u : Option Addr} {n c m e l f r t k : Nat} {key nonce p bs d : List UInt8} (hk : BS w a n c key) (hn : BS w b m e nonce) (hp : BS w o l f p) (hb : BS w u r t bs) (hkl : key.length = 32) (hnl : nonce.length = 12) (hl : l ≤ 65536) (hr : r ≤ 65536) (hD : OPN key nonce p bs d k) :
    Calls Try.prog 18 #[.slice a n c, .slice b m e, .slice o l f, .slice u r t] w fun x w' => ∃ a c, x = .returned (.tuple #[.slice a d.length c, .int .i64 (k : Int)]) ∧ OW w' w.heap.size 5 1 a d.length c (d.map B) ∧ Below w.heap.size w w' := by
  rcases Nat.lt_or_ge l 16 with h16 | h16
  · exact ropen_short w hp h16 hD
  have hpl := BS.len hp
  obtain ⟨N, hN⟩ : ∃ N, l = N + 16 := ⟨l - 16, by omega⟩
  have hNi : (l : Int) - 16 = (N : Int) := by omega
  obtain ⟨T, hT⟩ := MK_ex key nonce (p.take N) bs
  have hop := hD.parts (by omega) hT
  have hNl : N ≤ l := by omega
  obtain ⟨hcut, hsl⟩ := runB_h hp N hNl
  obtain ⟨a5, htl, hsl2⟩ := runB_l hp N hNl
  have Hmk := Lib.hid (rmark_any w.drew (RS.drew hk) (RS.drew hn) (RS.drew hcut) (RS.drew hb) hkl hnl (by omega) hT)
  have HK := Lib.hid hk
  have HNn := Lib.hid hn
  have HCUT := Lib.hid hcut
  have HTL := Lib.hid (RS.drew htl)
  obtain ⟨q, hq⟩ : ∃ q, (T == p.drop N) = q := ⟨_, rfl⟩
  have hO := hop.h
  rw [hq] at hO
  have Hq := Lib.hid hq
  have HO := Lib.hid hO
  clear hT hop hcut htl hk hn hp hb hD hN hq hO
  go_enter Try.func18, Try.ntmps18
  go_upto_region 4 with (fail)
  go_region_held3 (fun _ => True) (first | exact trivial | go_keep)
    (first
    | (go_at_call 33; (with_reducible refine Hmk.out.mono ?_); rintro x w2 ⟨a2, c2, rfl, o2, B2⟩; have hsm := same_any w2 o2.rs (RS.below HTL.out B2 (Nat.le_refl _)); rw [Hq.out] at hsm)
    | (go_at_call 13; (with_reducible refine hsm.mono ?_); rintro x w3 ⟨rfl, rfl⟩))
  have hb2 : Below w.heap.size w _ := below_undrew B2
  have hb2' := hb2
  cases q
  · rcases HO.out with ⟨h, _⟩ | ⟨_, rfl, rfl⟩
    · cases h
    go_wp2
    go_ret2
    exact ⟨none, 0, rfl, OW_nil _ _ _ _, hb2⟩
  · rcases HO.out with ⟨_, hmx, rfl⟩ | ⟨h, _⟩
    rotate_left
    · cases h
    have hdl : d.length = N := by rw [hmx.len, List.length_take]; omega
    have Hmix := Lib.hid (rmix_any _ (RS.below HK.out hb2 (Nat.le_refl _)) (RS.below HNn.out hb2 (Nat.le_refl _)) (RS.below HCUT.out hb2 (Nat.le_refl _)) hkl hnl (by omega) hmx)
    clear hmx
    go_wp2_with (go_at_call 32; refine Hmix.out.mono ?_; rintro x w5 ⟨a6, c6, rfl, o6, B6⟩)
    go_ret2
    refine ⟨a6, c6, ?_, ?_, hb2'.trans (B6.mono hb2'.size)⟩
    · first | rfl | (rw [hdl]; rfl)
    · first | exact o6.mono hb2'.size | (rw [hdl]; exact o6.mono hb2'.size)
end Go.Proofs.Ytlncnjcbgfeaoaa
