/- law03.SaltTurned: its walk. -/
import Derived.Test.YtlncnjcbgfeaoaaCK
set_option maxRecDepth 100000
set_option linter.unusedVariables false
namespace Go.Proofs.Ytlncnjcbgfeaoaa
open Go.RowKit
theorem cutB (w : World) {a : Option Addr} {n c : Nat} {xs P : List UInt8} (hx : BS w a n c xs) (K : Int) (k N : Nat) (hK : K = k) (hk : k ≤ 140737488355328) (hN : min n k = N) (hP : xs.take N = P) :
    Calls Try.prog 10 #[.slice a n c, .int .i64 K] w fun e w' => ∃ a' c', e = .returned (.slice a' N c') ∧ OW w' w.heap.size 5 1 a' N c' (P.map B) ∧ Below w.heap.size w w' := by
  subst hK
  refine (cut_any w hx (k : Int) (by omega) (by omega)).mono ?_
  rintro e w' ⟨a', c', h1, h2, h3⟩
  rw [Int.toNat_natCast, hN] at h1 h2
  rw [← List.map_take, hP] at h2
  exact ⟨a', c', h1, h2, h3⟩
set_option maxHeartbeats 4000000 in
theorem saltTurned_walk (W : World) {b0 b1 : Option Addr} {n0 c0 n1 c1 : Nat} {key nonce xs ys : List UInt8} {a4 a5 : Int} (hkl : key.length = 32) (hnl : nonce.length = 12) (hx : BS W b0 n0 c0 xs) (hy : BS W b1 n1 c1 ys) (w4 : (Lit.int .u8 a4).wf = true) (w5 : (Lit.int .u8 a5).wf = true) :
    Calls Try.prog 6 #[.agg (key.map B).toArray, .agg (nonce.map B).toArray, .slice b0 n0 c0, .slice b1 n1 c1, .int .u8 a4, .int .u8 a5] W fun e w' => e = .returned (.bool true) ∧ Below W.heap.size W w' := by
  obtain ⟨g1, g2⟩ := bounds_u8 w4
  obtain ⟨g3, g4⟩ := bounds_u8 w5
  obtain ⟨at_, rfl⟩ := Int.eq_ofNat_of_zero_le g1
  obtain ⟨by_, rfl⟩ := Int.eq_ofNat_of_zero_le g3
  clear w4 w5 g1 g3
  have hz1 : (W.alloc (.cells (key.map B).toArray 22)).heap.size = W.heap.size + 1 := by simp
  have hA := (AB_box W 22 key).al (.cells (nonce.map B).toArray 32)
  have hM := AB_box (W.alloc (.cells (key.map B).toArray 22)) 32 nonce
  have hbl : Below W.heap.size W _ := (below_alloc W (.cells (key.map B).toArray 22)).alloc (by simp) (.cells (nonce.map B).toArray 32)
  have hx1 := (RS.alloc hx (.cells (key.map B).toArray 22)).alloc (.cells (nonce.map B).toArray 32)
  have hy1 := (RS.alloc hy (.cells (key.map B).toArray 22)).alloc (.cells (nonce.map B).toArray 32)
  rw [hz1] at hM
  by_cases hb0 : by_ = 0
  · subst hb0
    clear hA hM hx hy hx1 hy1
    go_enter Try.func6, Try.ntmps6
    go_upto_region 1 with (fail)
    generalize (World.alloc _ _) = W1 at *
    have hbs := hbl.size
    go_wp2_with (first
      | (go_at_call 9; (with_reducible refine (awake03 w2).mono ?_); rintro x w3 ⟨rfl, B3⟩)
      | (go_at_call 9; refine (awake03 _).mono ?_; rintro x w2 ⟨rfl, B2⟩))
    go_ret
    exact ⟨rfl, hbl.trans ((btr B2 B3).mono hbs)⟩
  have hi32 := Lib.hid (show (Try.prog.info? 22).map (·.size) = some (key.map B).length by rw [List.length_map, hkl]; kernel_rfl)
  have hi12 := Lib.hid (show (Try.prog.info? 32).map (·.size) = some (nonce.map B).length by rw [List.length_map, hnl]; kernel_rfl)
  obtain ⟨N, hN⟩ : ∃ N, min n0 200 = N := ⟨_, rfl⟩
  obtain ⟨M, hM2⟩ : ∃ M, min n1 50 = M := ⟨_, rfl⟩
  obtain ⟨P, hP⟩ : ∃ P, xs.take N = P := ⟨_, rfl⟩
  obtain ⟨Q, hQ⟩ : ∃ Q, ys.take M = Q := ⟨_, rfl⟩
  have hxl := BS.len hx
  have hyl := BS.len hy
  have hPl : P.length = N := by rw [← hP, List.length_take]; omega
  have hQl : Q.length = M := by rw [← hQ, List.length_take]; omega
  obtain ⟨d, hd⟩ := CL_ex key nonce P Q
  obtain ⟨L, hL⟩ : ∃ L, N + 16 = L := ⟨_, rfl⟩
  have hdl : d.length = L := by rw [hd.len, hPl, hL]
  obtain ⟨r, hr⟩ : ∃ r, at_ % 16 = r := ⟨_, rfl⟩
  have hri : (at_ : Int) % 16 = (r : Int) := by omega
  obtain ⟨j, hj⟩ : ∃ j, L - 1 - r = j := ⟨_, rfl⟩
  have hji : (L : Int) - 1 - (r : Int) = (j : Int) := by omega
  have hjL : j < L := by omega
  obtain ⟨x, ex⟩ : ∃ x, d[j]? = some x := ⟨_, List.getElem?_eq_getElem (by omega)⟩
  have hne : UInt8.ofNat by_ ≠ 0 := by
    intro h
    have := congrArg UInt8.toNat h
    simp [UInt8.toNat_ofNat'] at this
    omega
  have hop := turned hd j (by omega) x (x ^^^ UInt8.ofNat by_) ex (xor_ne _ _ hne)
  have hbn : (by_ : Int) ≠ 0 := by omega
  have hby : by_ < 256 := by omega
  have Hcut1 := Lib.hid (fun w' (h : BS w' b0 n0 c0 xs) => cutB w' h 200 200 N rfl (by omega) hN hP)
  have Hcut2 := Lib.hid (fun w' (h : BS w' b1 n1 c1 ys) => cutB w' h 50 50 M rfl (by omega) hM2 hQ)
  have Hex := Lib.hid ex
  have Hhd := Lib.hid hd
  have Hop := Lib.hid hop
  have HL := Lib.hid hL
  have hNM : N + M ≤ 549755813888 := by omega
  have hLM : L + M ≤ 549755813888 := by omega
  have hM50 : M ≤ 50 := by omega
  clear hz1 hx hy hN hM2 hP hQ hj hr hop hd ex hL hne
  go_enter Try.func6, Try.ntmps6
  go_upto_region 1 with (fail)
  generalize (World.alloc _ _) = W1 at *
  have l0 := hA.lt
  have l1 := hM.lt
  have hbs := hbl.size
  go_upto_region 3 with (go_at_call 9; refine (awake03 _).mono ?_; rintro x w2 ⟨rfl, B2⟩)
  have rA : w2.drew.rangeAt W.heap.size 0 (key.map B) := (hA.bl B2 l0).rng
  have rM : w2.drew.rangeAt (W.heap.size + 1) 0 (nonce.map B) := (hM.bl B2 l1).rng
  have hx2 := RS.below hx1 B2 (Nat.le_refl _)
  have hy2 := RS.below hy1 B2 (Nat.le_refl _)
  have hb2 := hbl.trans (B2.mono hbs)
  have z2 := B2.size
  have k0_ : W.heap.size < w2.heap.size := Nat.lt_of_lt_of_le l0 z2
  have k1_ : W.heap.size + 1 < w2.heap.size := Nat.lt_of_lt_of_le l1 z2
  have HX2 := Lib.hid hx2
  have HY2 := Lib.hid hy2
  have HB2 := Lib.hid hb2
  have hu32 := Try.underlying22
  have hu12 := Try.underlying32
  have hs32 := hi32.out
  have hs12 := hi12.out
  clear hA hM hbl hx1 hy1 hx2 hy2 B2 hb2
  refine wp_region_held_drew (S := fun w' => w'.rangeAt W.heap.size 0 (key.map B) ∧ w'.rangeAt (W.heap.size + 1) 0 (nonce.map B)) (by kernel_rfl) ⟨rA, rM⟩ (fun hHeld => ?_)
  refine wpAnyH_take (i := 0) rfl (by kernel_rfl) (by kernel_rfl) (by kernel_rfl) (fun _ _ _ h => h) (yieldsIf_load_mid (by rfl) _ _ rfl _ _ rfl _ _ (fun w h => h.1) hu32 rfl hs32) hHeld ?_
  try simp only [Act.put, List.getElem_toArray, List.getElem_cons_zero, List.setIfInBounds_toArray, List.set_cons_zero, List.set_cons_succ]
  refine wpAnyH_take (i := 1) rfl (by kernel_rfl) (by kernel_rfl) (by kernel_rfl) (fun _ _ _ h => h) (yieldsIf_load_mid (by rfl) _ _ rfl _ _ rfl _ _ (fun w h => h.2) hu12 rfl hs12) hHeld ?_
  try simp only [Act.put, List.getElem_toArray, List.getElem_cons_succ, List.getElem_cons_zero, List.setIfInBounds_toArray, List.set_cons_zero, List.set_cons_succ]
  refine wpAnyH_take (i := 2) (v := .slice b0 n0 c0) rfl (by kernel_rfl) (by kernel_rfl) (by kernel_rfl) (fun _ _ _ h => h) (Or.inl ⟨by rfl, fun w h => by go_simp⟩) hHeld ?_
  try simp only [Act.put, List.getElem_toArray, List.getElem_cons_succ, List.getElem_cons_zero, List.setIfInBounds_toArray, List.set_cons_zero, List.set_cons_succ]
  refine wpAnyH_take (i := 4) (v := .slice b1 n1 c1) rfl (by kernel_rfl) (by kernel_rfl) (by kernel_rfl) (fun _ _ _ h => h) (Or.inl ⟨by rfl, fun w h => by go_simp⟩) hHeld ?_
  try simp only [Act.put, List.getElem_toArray, List.getElem_cons_succ, List.getElem_cons_zero, List.setIfInBounds_toArray, List.set_cons_zero, List.set_cons_succ]
  refine wpAnyH_ready (rs := [3]) (by kernel_rfl) (by simp) (AllReadyH.cons rfl (fun K hK => ?_) AllReadyH.nil)
  go_simp
  go_at_call 10
  refine (Hcut1.out w2.drew (RS.drew HX2.out)).mono ?_
  rintro x w3 ⟨a3, c3, rfl, o3, B3⟩
  have b3 : Below w2.drew.heap.size w2.drew w3 := B3
  refine hK.out _ _ ⟨rng_bel rA b3 k0_, rng_bel rM b3 k1_⟩ (fun hHeld => ?_)
  clear hK K
  try simp only [Act.put, List.getElem_toArray, List.getElem_cons_succ, List.getElem_cons_zero, List.setIfInBounds_toArray, List.set_cons_zero, List.set_cons_succ]
  refine wpAnyH_ready (rs := [5]) (by kernel_rfl) (by simp) (AllReadyH.cons rfl (fun K hK => ?_) AllReadyH.nil)
  go_simp
  go_at_call 10
  refine (Hcut2.out w3 (RS.below (RS.drew HY2.out) b3 (Nat.le_refl _))).mono ?_
  rintro x w4 ⟨a4, c4, rfl, o4, B4⟩
  have b4 := btr b3 B4
  have hp4 := RS.below o3.rs B4 (Nat.le_refl _)
  have hcl := close_any w4 hkl hnl hp4 o4.rs hNM Hhd.out
  rw [HL.out] at hcl
  have Hcl := Lib.hid hcl
  refine hK.out _ _ ⟨rng_bel rA b4 k0_, rng_bel rM b4 k1_⟩ (fun hHeld => ?_)
  clear hK K hcl
  try simp only [Act.put, List.getElem_toArray, List.getElem_cons_succ, List.getElem_cons_zero, List.setIfInBounds_toArray, List.set_cons_zero, List.set_cons_succ]
  refine wpAnyH_ready (rs := [6]) (by kernel_rfl) (by simp) (AllReadyH.cons rfl (fun K hK => ?_) AllReadyH.nil)
  go_simp
  go_at_call 15
  refine Hcl.out.mono ?_
  rintro y w5 ⟨a5, c5, rfl, o5, B5⟩
  have b5 := btr b4 B5
  refine hK.out _ _ ⟨rng_bel rA b5 k0_, rng_bel rM b5 k1_⟩ (fun hHeld => ?_)
  clear hK K
  try simp only [Act.put, List.getElem_toArray, List.getElem_cons_succ, List.getElem_cons_zero, List.setIfInBounds_toArray, List.set_cons_zero, List.set_cons_succ]
  refine wpAnyH_take (i := 7) (v := .slice a5 L c5) rfl (by kernel_rfl) (by kernel_rfl) (by kernel_rfl) (fun _ _ _ h => h) (Or.inl ⟨by rfl, fun w h => by go_simp⟩) hHeld ?_
  try simp only [Act.put, List.getElem_toArray, List.getElem_cons_succ, List.getElem_cons_zero, List.setIfInBounds_toArray, List.set_cons_zero, List.set_cons_succ]
  refine wpAnyH_done (by kernel_rfl) ?_ _
  try simp only [Act.put, List.getElem_toArray, List.getElem_cons_succ, List.getElem_cons_zero]
  have hLc := o5.rs.le
  obtain ⟨g, rfl, lg1, lg3⟩ : ∃ g, a5 = some ⟨g, 0, none⟩ ∧ w4.heap.size ≤ g ∧ g < w5.heap.size := by
    rcases o5.shape with ⟨_, h, _⟩ | ⟨g, cur, h1, h2, h3, _⟩
    · have := HL.out; omega
    · exact ⟨g, h1, h2, h3⟩
  have z4 : w2.heap.size ≤ w4.heap.size := b4.size
  obtain ⟨z, hz⟩ : ∃ z, x.toNat ^^^ by_ = z := ⟨_, rfl⟩
  have hv : B (x ^^^ UInt8.ofNat by_) = .int .u8 (z : Int) := by rw [← hz]; simp only [B, UInt8.toNat_xor, UInt8.toNat_ofNat', Nat.mod_eq_of_lt hby]
  have hxor : bits .xor .u8 (x.toNat : Int) (by_ : Int) = (z : Int) := by rw [← hz]; exact u8_xor_nat x.toNat by_ x.toNat_lt hby
  have q0 : w5.cell? ⟨g, j, none⟩ = some (.int .u8 (x.toNat : Int)) := o5.cell j (B x) (by rw [List.getElem?_map, Hex.out]; rfl)
  have f0 := o5.frozen j
  have o6 := o5.setCell j (B (x ^^^ UInt8.ofNat by_)) rfl
  rw [← List.map_set, hv] at o6
  have b6 := b5.grown (grownBy_setCell w5 ⟨g, j, none⟩ (.int .u8 (z : Int))) b5.size (fun k hk => by cases hk; exact Nat.le_trans z4 lg1)
  have h6 : BS (w5.setCell ⟨g, j, none⟩ (.int .u8 (z : Int))) (some ⟨g, 0, none⟩) L c5 (d.set j (x ^^^ UInt8.ofNat by_)) := o6.rs
  have H6 := Lib.hid h6
  have B6 := Lib.hid b6
  have HB5 := Lib.hid B5
  clear o6 h6 b6 hv hz o5 B4 b4 b5 o3 o4 b3 hp4 Hcl Hcut1 hHeld B5
  go_upto_region 5 with (fail)
  clear q0 f0 hxor
  generalize (World.setCell _ _ _) = w6 at *
  have r6A : w6.drew.rangeAt W.heap.size 0 (key.map B) := rng_bel rA B6.out.drew k0_
  have r6M : w6.drew.rangeAt (W.heap.size + 1) 0 (nonce.map B) := rng_bel rM B6.out.drew k1_
  have hy6 : BS w6.drew b1 n1 c1 ys := RS.drew (RS.below (RS.drew HY2.out) B6.out (Nat.le_refl _))
  have HY6 := Lib.hid hy6
  have HB6 := Lib.hid (HB2.out.drew.trans (B6.out.mono HB2.out.size))
  clear hy6
  refine wp_region_held_drew (S := fun w' => w'.rangeAt W.heap.size 0 (key.map B) ∧ w'.rangeAt (W.heap.size + 1) 0 (nonce.map B)) (by kernel_rfl) ⟨r6A, r6M⟩ (fun hHeld => ?_)
  refine wpAnyH_take (i := 0) rfl (by kernel_rfl) (by kernel_rfl) (by kernel_rfl) (fun _ _ _ h => h) (yieldsIf_load_mid (by rfl) _ _ rfl _ _ rfl _ _ (fun w h => h.1) hu32 rfl hs32) hHeld ?_
  try simp only [Act.put, List.getElem_toArray, List.getElem_cons_zero, List.setIfInBounds_toArray, List.set_cons_zero, List.set_cons_succ]
  refine wpAnyH_take (i := 1) rfl (by kernel_rfl) (by kernel_rfl) (by kernel_rfl) (fun _ _ _ h => h) (yieldsIf_load_mid (by rfl) _ _ rfl _ _ rfl _ _ (fun w h => h.2) hu12 rfl hs12) hHeld ?_
  try simp only [Act.put, List.getElem_toArray, List.getElem_cons_succ, List.getElem_cons_zero, List.setIfInBounds_toArray, List.set_cons_zero, List.set_cons_succ]
  refine wpAnyH_take (i := 2) (v := .slice (some ⟨g, 0, none⟩) L c5) rfl (by kernel_rfl) (by kernel_rfl) (by kernel_rfl) (fun _ _ _ h => h) (Or.inl ⟨by rfl, fun w h => by go_simp⟩) hHeld ?_
  try simp only [Act.put, List.getElem_toArray, List.getElem_cons_succ, List.getElem_cons_zero, List.setIfInBounds_toArray, List.set_cons_zero, List.set_cons_succ]
  refine wpAnyH_take (i := 3) (v := .slice b1 n1 c1) rfl (by kernel_rfl) (by kernel_rfl) (by kernel_rfl) (fun _ _ _ h => h) (Or.inl ⟨by rfl, fun w h => by go_simp⟩) hHeld ?_
  try simp only [Act.put, List.getElem_toArray, List.getElem_cons_succ, List.getElem_cons_zero, List.setIfInBounds_toArray, List.set_cons_zero, List.set_cons_succ]
  refine wpAnyH_ready (rs := [4]) (by kernel_rfl) (by simp) (AllReadyH.cons rfl (fun K hK => ?_) AllReadyH.nil)
  go_simp
  go_at_call 10
  refine (Hcut2.out w6.drew HY6.out).mono ?_
  rintro x w7 ⟨a7, c7, rfl, o7, B7⟩
  have b7 : Below w6.drew.heap.size w6.drew w7 := B7
  have h7 := RS.below (RS.drew H6.out) b7 (Nat.le_refl _)
  have Hopn := Lib.hid (open_any w7 hkl hnl h7 o7.rs hLM Hop.out)
  have k0' : W.heap.size < w6.drew.heap.size := Nat.lt_of_lt_of_le k0_ B6.out.size
  have k1' : W.heap.size + 1 < w6.drew.heap.size := Nat.lt_of_lt_of_le k1_ B6.out.size
  refine hK.out _ _ ⟨rng_bel r6A b7 k0', rng_bel r6M b7 k1'⟩ (fun hHeld => ?_)
  clear hK K h7
  try simp only [Act.put, List.getElem_toArray, List.getElem_cons_succ, List.getElem_cons_zero, List.setIfInBounds_toArray, List.set_cons_zero, List.set_cons_succ]
  refine wpAnyH_ready (rs := [5]) (by kernel_rfl) (by simp) (AllReadyH.cons rfl (fun K hK => ?_) AllReadyH.nil)
  go_simp
  go_at_call 16
  refine Hopn.out.mono ?_
  rintro y w8 ⟨a8, c8, rfl, o8, B8⟩
  have b8 := btr b7 B8
  have hb8 := HB6.out.drew.trans (b8.mono HB6.out.size)
  refine hK.out _ _ ⟨rng_bel r6A b8 k0', rng_bel r6M b8 k1'⟩ (fun hHeld => ?_)
  clear hK K Hopn
  try simp only [Act.put, List.getElem_toArray, List.getElem_cons_succ, List.getElem_cons_zero, List.setIfInBounds_toArray, List.set_cons_zero, List.set_cons_succ]
  refine wpAnyH_take (i := 6) (v := .tuple #[.slice a8 0 c8, .int .i64 5]) rfl (by kernel_rfl) (by kernel_rfl) (by kernel_rfl) (fun _ _ _ h => h) (Or.inl ⟨by rfl, fun w h => by go_simp⟩) hHeld ?_
  try simp only [Act.put, List.getElem_toArray, List.getElem_cons_succ, List.getElem_cons_zero, List.setIfInBounds_toArray, List.set_cons_zero, List.set_cons_succ]
  refine wpAnyH_take (i := 7) (v := .slice a8 0 c8) rfl (by kernel_rfl) (by kernel_rfl) (by kernel_rfl) (fun _ _ _ h => h) (Or.inl ⟨by rfl, fun w h => by go_simp⟩) hHeld ?_
  try simp only [Act.put, List.getElem_toArray, List.getElem_cons_succ, List.getElem_cons_zero, List.setIfInBounds_toArray, List.set_cons_zero, List.set_cons_succ]
  refine wpAnyH_take (i := 8) (v := .int .i64 5) rfl (by kernel_rfl) (by kernel_rfl) (by kernel_rfl) (fun _ _ _ h => h) (Or.inl ⟨by rfl, fun w h => by go_simp⟩) hHeld ?_
  try simp only [Act.put, List.getElem_toArray, List.getElem_cons_succ, List.getElem_cons_zero, List.setIfInBounds_toArray, List.set_cons_zero, List.set_cons_succ]
  refine wpAnyH_take (i := 9) (v := .slice a8 0 c8) rfl (by kernel_rfl) (by kernel_rfl) (by kernel_rfl) (fun _ _ _ h => h) (Or.inl ⟨by rfl, fun w h => by go_simp⟩) hHeld ?_
  try simp only [Act.put, List.getElem_toArray, List.getElem_cons_succ, List.getElem_cons_zero, List.setIfInBounds_toArray, List.set_cons_zero, List.set_cons_succ]
  refine wpAnyH_take (i := 10) (v := .int .i64 5) rfl (by kernel_rfl) (by kernel_rfl) (by kernel_rfl) (fun _ _ _ h => h) (Or.inl ⟨by rfl, fun w h => by go_simp⟩) hHeld ?_
  try simp only [Act.put, List.getElem_toArray, List.getElem_cons_succ, List.getElem_cons_zero, List.setIfInBounds_toArray, List.set_cons_zero, List.set_cons_succ]
  refine wpAnyH_done (by kernel_rfl) ?_ _
  try simp only [Act.put, List.getElem_toArray, List.getElem_cons_succ, List.getElem_cons_zero]
  go_wp2
  go_ret
  exact ⟨rfl, hb8⟩
end Go.Proofs.Ytlncnjcbgfeaoaa
