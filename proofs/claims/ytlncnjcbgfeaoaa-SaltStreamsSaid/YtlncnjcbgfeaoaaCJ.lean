/- law03.awake: the document's example. -/
import Derived.Test.YtlncnjcbgfeaoaaCI
set_option maxRecDepth 100000
set_option linter.unusedVariables false
namespace Go.Proofs.Ytlncnjcbgfeaoaa
open Go.RowKit
def k0 : List UInt8 := List.replicate 32 0
def n0 : List UInt8 := List.replicate 12 0
theorem awake_str : (strS k0 n0 0 1).take 4 = [118, 184, 224, 173] := by decide +kernel
/-- closed bytes of which one of the tag's is another one -/
theorem turned {key nonce p bs d : List UInt8} (hD : CL key nonce p bs d) (j : Nat) (h1 : p.length ≤ j) (x y : UInt8) (hx : d[j]? = some x) (hy : y ≠ x) : OPN key nonce (d.set j y) bs [] 5 := by
  have hd := hD.h
  have hl := hD.len
  have hj := (List.getElem?_eq_some_iff.1 hx).1
  unfold closeS at hd
  have hml := mixS_len key nonce p
  have htl := markS_len key nonce (mixS key nonce p) bs
  obtain ⟨M, hM⟩ : ∃ M, mixS key nonce p = M := ⟨_, rfl⟩
  rw [hM] at hd hml htl
  have hmk : ∃ T, markS key nonce M bs = T := ⟨_, rfl⟩
  obtain ⟨T, hT⟩ := hmk
  rw [hT] at hd htl
  refine ⟨?_⟩
  unfold openS
  rw [← hd, List.getElem?_append_right (by omega)] at hx
  rw [← hd, List.set_append_right _ _ (by omega)]
  have e1 : (M ++ T.set (j - M.length) y).length - 16 = M.length := by simp; omega
  rw [e1, if_neg (by simp; omega), List.take_left, List.drop_left, hT, if_neg]
  intro h
  have h := eq_of_beq h
  have h2 : (T.set (j - M.length) y)[j - M.length]? = some y := List.getElem?_set_self (List.getElem?_eq_some_iff.1 hx).1
  rw [← h, hx] at h2
  exact hy (Option.some.inj h2).symm
/-- the stream from a block on -/
theorem strS_add (key nonce : List UInt8) (fr k m : Nat) : strS key nonce fr (k + m) = strS key nonce fr k ++ strS key nonce ((fr + k) % 4294967296) m := by
  induction m with
  | zero => simp [strS]
  | succ m ih =>
    rw [← Nat.add_assoc, strS, ih, strS, List.append_assoc]
    congr 3
    omega
theorem goes_on {key nonce : List UInt8} {fr k n : Nat} {d e : List UInt8} (h1 : SM key nonce fr (64 * k + n) d) (h2 : SM key nonce ((fr + k) % 4294967296) n e) : d.drop (64 * k) = e := by
  have e1 := h1.h
  have e2 := h2.h
  rw [show (64 * k + n + 63) / 64 = k + (n + 63) / 64 by omega, strS_add] at e1
  rw [← e1, ← e2, List.drop_take, List.drop_left' (strS_len _ _ _ _), show 64 * k + n - 64 * k = n by omega]
theorem SM_str {d : List UInt8} (h : SM k0 n0 0 4 d) : d = [118, 184, 224, 173] := by
  have := h.h
  rw [show (4 + 63) / 64 = 1 from rfl, awake_str] at this
  exact this.symm
theorem xor_ne (x y : UInt8) (hy : y ≠ 0) : x ^^^ y ≠ x := by
  intro h
  apply hy
  have h2 : x ^^^ (x ^^^ y) = x ^^^ x := by rw [h]
  rw [← UInt8.xor_assoc, UInt8.xor_self, UInt8.zero_xor] at h2
  exact h2
set_option maxHeartbeats 4000000 in
theorem awake03 (w : World) : Calls Try.prog 9 #[] w fun e w' => e = .returned (.bool true) ∧ Below w.heap.size w w' := by
  obtain ⟨d, hd⟩ := CL_ex k0 n0 [] []
  obtain ⟨s, hs⟩ := SM_ex k0 n0 0 4
  have hdl : d.length = 16 := hd.len
  obtain ⟨x, hx⟩ : ∃ x, d[3]? = some x := ⟨_, List.getElem?_eq_getElem (by omega)⟩
  have hop := turned hd 3 (by simp) x (x ^^^ 1) hx (xor_ne x 1 (by decide))
  have hstr := EB.mk (SM_str hs)
  have Hx := Lib.hid hx
  clear hx
  go_enter Try.func9, Try.ntmps9
  go_upto_region 2 with (go_at_call 15; go_loud (refine (close_any _ (key := k0) (nonce := n0) (p := []) (bs := []) rfl rfl (RS_nil _ _) (RS_nil _ _) (by omega) hd).mono ?_); rintro x w1 ⟨a1, c1, rfl, o1, B1⟩)
  have z1 := B1.size
  go_upto_region 5 with (go_at_call 19; go_loud (refine (stream_any _ (key := k0) (nonce := n0) rfl rfl 0 (by omega) 4 (by omega) hs).mono ?_); rintro e w2 ⟨a2, c2, rfl, os2, B2⟩)
  have o2 := o1.below B2 (Nat.le_refl _)
  have b2 := B1.trans (B2.mono z1)
  obtain ⟨g, rfl, lg1, lg3⟩ : ∃ g, a1 = some ⟨g, 0, none⟩ ∧ w.heap.size ≤ g ∧ g < w1.heap.size := by
    rcases o1.shape with ⟨_, h, _⟩ | ⟨g, cur, h1, h2, h3, _⟩
    · simp at h
    · exact ⟨g, h1, h2, h3⟩
  have q0 : w2.cell? ⟨g, 3, none⟩ = some (.int .u8 (x.toNat : Int)) := o2.cell 3 (B x) (by rw [List.getElem?_map, Hx.out]; rfl)
  have f0 := o2.frozen 3
  have hxor : bits .xor .u8 (x.toNat : Int) 1 = ((x.toNat ^^^ 1 : Nat) : Int) := u8_xor_nat x.toNat 1 x.toNat_lt (by decide)
  obtain ⟨z, hz⟩ : ∃ z, x.toNat ^^^ 1 = z := ⟨_, rfl⟩
  have hv : B (x ^^^ 1) = .int .u8 ((x.toNat ^^^ 1 : Nat) : Int) := by simp [B]
  have o3 := o2.setCell 3 (B (x ^^^ 1)) rfl
  rw [hz] at hxor hv
  rw [← List.map_set, hv] at o3
  have b3 := b2.grown (grownBy_setCell w2 ⟨g, 3, none⟩ (B (x ^^^ 1))) b2.size (fun k hk => by cases hk; exact lg1)
  rw [hv] at b3
  have hs3 : BS (w2.setCell ⟨g, 3, none⟩ (.int .u8 (z : Int))) a2 4 c2 s := by
    exact os2.rs.setOther (fun ad had => by have := (os2.base_le had).1; have := lg3; simp; omega) _
  have hb0 := b3.size
  have hp3 := o3.rs
  have Hop := Lib.hid (open_any (w2.setCell ⟨g, 3, none⟩ (.int .u8 (z : Int))) (key := k0) (nonce := n0) rfl rfl (show BS _ _ _ _ (d.set 3 (x ^^^ 1)) from hp3) (RS_nil _ _) (by omega) hop)
  have B3 := Lib.hid b3
  have HS3 := Lib.hid hs3
  rw [hstr.h] at HS3
  clear hop hs3 hp3 o3 b3 hv b2 B1 B2 o1 o2 os2
  go_upto_region 6 with (fail)
  clear q0 f0 hxor
  generalize (World.setCell _ _ _) = w3 at *
  go_upto_region 7 with (go_at_call 16; go_loud (refine Hop.out.mono ?_); rintro e w4 ⟨a4, c4, rfl, o4, B4⟩)
  have b4 := B3.out.trans (B4.mono hb0)
  have hs4 := RS.below HS3.out B4 (Nat.le_refl _)
  have hlit : BS (w4.alloc (.cells #[.int .u8 118, .int .u8 184, .int .u8 224, .int .u8 173] 5)) (some ⟨w4.heap.size, 0, none⟩) 4 4 [118, 184, 224, 173] := RS_new w4 _ #[.int .u8 118, .int .u8 184, .int .u8 224, .int .u8 173] 4 rfl (by omega) (by simp [Value.oneCell'])
  have hsm := same_any _ (RS.alloc hs4 (.cells #[.int .u8 118, .int .u8 184, .int .u8 224, .int .u8 173] 5)) hlit
  have Hsm := Lib.hid hsm
  have B4' := Lib.hid (b4.alloc b4.size (.cells #[.int .u8 118, .int .u8 184, .int .u8 224, .int .u8 173] 5))
  clear hsm hlit hs4 o4 B4 b4
  go_wp2_with (go_at_call 13; go_loud (refine Hsm.out.mono ?_); rintro e w5 ⟨rfl, rfl⟩)
  go_ret
  exact ⟨rfl, B4'.out⟩
end Go.Proofs.Ytlncnjcbgfeaoaa
