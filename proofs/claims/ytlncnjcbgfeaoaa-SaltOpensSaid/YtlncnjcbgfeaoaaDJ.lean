/- the reference's mix. -/
import Derived.Test.YtlncnjcbgfeaoaaDG
import Derived.Test.YtlncnjcbgfeaoaaCF
set_option maxRecDepth 100000
set_option linter.unusedVariables false
namespace Go.Proofs.Ytlncnjcbgfeaoaa
open Go.RowKit
theorem mix_at {key nonce p d s : List UInt8} (hD : MX key nonce p d) (hs : SM key nonce 1 p.length s) (i : Nat) (x y : UInt8) (hx : p[i]? = some x) (hy : s[i]? = some y) : d[i]? = some (x ^^^ y) := by
  have hi := (List.getElem?_eq_some_iff.1 hx).1
  rw [← hD.h]
  unfold mixS
  rw [mixJ_get _ _ _ _ hi, if_pos hi]
  have h1 := hs.h
  rw [← h1, List.getElem?_take, if_pos hi] at hy
  rw [List.getD_eq_getElem?_getD, List.getD_eq_getElem?_getD, hx, hy]; rfl
set_option maxHeartbeats 4000000 in
theorem rmix_any (w : World) {a b o : Option Addr} {n c m e l f : Nat} {key nonce p d : List UInt8} (hk : BS w a n c key) (hn : BS w b m e nonce) (hp : BS w o l f p) (hkl : key.length = 32) (hnl : nonce.length = 12) (hl : l ≤ 65536) (hD : MX key nonce p d) :
    Calls Try.prog 32 #[.slice a n c, .slice b m e, .slice o l f] w fun x w' => ∃ a c, x = .returned (.slice a l c) ∧ OW w' w.heap.size 5 1 a l c (d.map B) ∧ Below w.heap.size w w' := by
  have hpl := BS.len hp
  have hdl := hD.len
  obtain ⟨s, hs⟩ := SM_ex key nonce 1 l
  have hsl := hs.len
  have hat := fun i x y => mix_at hD (by rw [hpl]; exact hs) i x y
  have Hat := Lib.hid hat
  have Hst := Lib.hid (rstream_any w hk hn hkl hnl 1 (by omega) l hl hs)
  have HP := Lib.hid hp
  have hmin : (if (65536 : Int) < (l : Int) then (65536 : Int) else (l : Int)) = (l : Int) := by rw [if_neg (by omega)]
  clear hat hs hk hn hp
  go_enter Try.func32, Try.ntmps32
  go_upto_region 2 with (go_at_call 20; go_loud (refine Hst.out.mono ?_); rintro x w2 ⟨a2, c2, rfl, o2, B2⟩)
  have hp2 := RS.below HP.out B2 (Nat.le_refl _)
  have HO2 := Lib.hid o2
  have HP2 := Lib.hid hp2
  have HB2 := Lib.hid B2
  have z2 := B2.size
  have hlc := RS.le HP.out
  have hlm := RS.max HP.out
  have hsc := o2.rs.le
  unfold maxLen at hlm
  clear o2 hp2 B2 hmin Hst
  rcases Nat.eq_zero_or_pos l with hl0 | hl0
  · subst hl0
    have hd0 : d = [] := List.eq_nil_of_length_eq_zero (by omega)
    subst hd0
    go_wp2
    go_loopw [9, 23] (fun s9 s23 wr => s9 = .slice none 0 0 ∧ s23 = .int .i64 0 ∧ wr = w2) (fun _ _ _ => 0)
    case atStart => exact ⟨rfl, rfl, rfl⟩
    case round =>
      obtain ⟨rfl, rfl, rfl⟩ := hrel
      go_wp2
      go_ret
      exact ⟨none, 0, rfl, OW_nil _ _ _ _, HB2.out⟩
  · obtain ⟨bo, oo, rfl, hpc⟩ := BS.at_ HP2.out hl0
    obtain ⟨g2, rfl, lg1, lg2⟩ : ∃ g, a2 = some ⟨g, 0, none⟩ ∧ w.heap.size ≤ g ∧ g < w2.heap.size := by
      rcases HO2.out.shape with ⟨_, h, _⟩ | ⟨g, cur, h1, h2, h3, _⟩
      · omega
      · exact ⟨g, h1, h2, h3⟩
    have lbo : bo < w2.heap.size := RS.block_lt HP2.out rfl hl0 (by omega)
    have HPC := Lib.hid hpc
    clear hpc
    go_wp2
    go_loopw [9, 23] (fun s9 s23 wr => ∃ (i : Nat) (a : Option Addr) (c : Nat), i ≤ l ∧ s23 = .int .i64 (i : Int) ∧ s9 = .slice a i c ∧ OW wr w2.heap.size 5 1 a i c ((d.take i).map B) ∧ Below w2.heap.size w2 wr) (fun _ s23 _ => l - (intOf s23).toNat)
    case atStart => exact ⟨0, none, 0, by omega, rfl, rfl, OW_nil _ _ _ _, Below.refl _ _⟩
    case round =>
      obtain ⟨i, a', c', hi, rfl, rfl, ho, hb⟩ := hrel
      have hsz := hb.size
      have hlen := ho.rs.le
      by_cases hlt : i < l
      · obtain ⟨x, ex⟩ : ∃ x, p[i]? = some x := ⟨_, List.getElem?_eq_getElem (by omega)⟩
        obtain ⟨y, ey⟩ : ∃ y, s[i]? = some y := ⟨_, List.getElem?_eq_getElem (by omega)⟩
        have ed := Hat.out i x y ex ey
        have q1 : wr.cell? ⟨bo, oo + i, none⟩ = some (.int .u8 (x.toNat : Int)) := (hb.cell (p := ⟨bo, oo + i, none⟩) lbo).trans (HPC.out i x ex)
        have q2 : wr.cell? ⟨g2, i, none⟩ = some (.int .u8 (y.toNat : Int)) := (hb.cell (p := ⟨g2, i, none⟩) lg2).trans (HO2.out.cell i (B y) (by rw [List.getElem?_map, ey]; rfl))
        have hxor := u8_xor_nat x.toNat y.toNat x.toNat_lt y.toNat_lt
        have hnx : EB (d.take (i + 1)) (d.take i ++ [x ^^^ y]) := ⟨by rw [List.take_add_one, ed]; rfl⟩
        have hv : B (x ^^^ y) = .int .u8 ((x.toNat ^^^ y.toNat : Nat) : Int) := by simp [B]
        obtain ⟨z, hz⟩ : ∃ z, x.toNat ^^^ y.toNat = z := ⟨_, rfl⟩
        rw [hz] at hxor hv
        have Hv := Lib.hid hv
        have HO := Lib.hid ho
        have HB := Lib.hid hb
        clear ho hb ex ey ed hv hz
        go_wp2_with (at_builtin; refine L_append tB (OW.alloc HO.out _) (RS_one _ _ _ rfl) _ _ rfl rfl rfl rfl (by omega) (by unfold maxLen; omega) (by simp; omega) ?_; intro a5 c5 w5 o5 g5)
        have B5 := Lib.hid ((HB.out.alloc hsz _).grown g5 (by simp; omega) (row_le (fun ad ha => (HO.out.base_le ha).1) (Nat.le_refl _)))
        have O5 := Lib.hid (show OW w5 w2.heap.size 5 1 a5 (i + 1) c5 ((d.take (i + 1)).map B) by rw [hnx.h, List.map_append, List.map_cons, List.map_nil, Hv.out]; exact o5)
        clear o5 g5
        go_roundw
        case rel => exact ⟨i + 1, a5, c5, by omega, by go_num, rfl, O5.out, B5.out⟩
        case measure => simp [intOf]; omega
      · have hil : i = l := by omega
        subst hil
        rw [List.take_of_length_le (by omega)] at ho
        have HO := Lib.hid (ho.mono z2)
        have HB := Lib.hid (HB2.out.trans (hb.mono z2))
        clear ho hb
        go_wp2
        go_ret
        exact ⟨_, _, rfl, HO.out, HB.out⟩
end Go.Proofs.Ytlncnjcbgfeaoaa
