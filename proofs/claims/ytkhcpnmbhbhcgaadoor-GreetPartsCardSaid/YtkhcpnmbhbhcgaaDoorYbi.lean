/- texts UH UI UE in one. -/
import Derived.Test.YtkhcpnmbhbhcgaaDoorYbh
import Derived.Test.YtkhcpnmbhbhcgaaDoorYbe
import Derived.Test.YtkhcpnmbhbhcgaaDoorYba

/- The reference's Play: a client that heard nothing. -/
set_option maxRecDepth 200000
set_option linter.unusedVariables false
namespace Go.Proofs.YtkhcpnmbhbhcgaaDoor
open Go.RowKit Go.Joins
/-- bytes that are read -/
structure Fs (w : World) (l : List (SA × List UInt8)) : Prop where
  all : ∀ x ∈ l, BS w x.1.a x.1.n x.1.c x.2
theorem Fs.nil (w : World) : Fs w [] := ⟨fun x h => by cases h⟩
theorem Fs.cons {w : World} {l : List (SA × List UInt8)} (h : Fs w l) {a : Option Addr} {n c : Nat} {xs : List UInt8} (hx : BS w a n c xs) : Fs w ((⟨a, n, c⟩, xs) :: l) := ⟨fun x hm => by
  rcases List.mem_cons.1 hm with rfl | hm
  · exact hx
  · exact h.all x hm⟩
theorem Fs.bel {w w' : World} {l : List (SA × List UInt8)} (h : Fs w l) (hb : Below w.heap.size w w') : Fs w' l := ⟨fun x hm => RS.below (h.all x hm) hb (Nat.le_refl _)⟩
theorem Fs.at_ {w : World} {l : List (SA × List UInt8)} (h : Fs w l) (i : Nat) {a : Option Addr} {n c : Nat} {xs : List UInt8} (he : l[i]? = some (⟨a, n, c⟩, xs)) : BS w a n c xs := h.all _ (List.mem_of_getElem? he)
/-- what a state of the reference's holds -/
structure PX where
  o0 : SA
  o1 : SA
  k1c : SA
  k1s : SA
  k2c : SA
  k2s : SA
  pe : SA
  came : Bool
  done : Bool
  wrong : Nat
def nA : SA := ⟨none, 0, 0⟩
def px0 : PX := ⟨nA, nA, nA, nA, nA, nA, nA, false, false, 0⟩
def xc (p : PX) : List Value := [p.o0.v, p.o1.v, .slice none 0 0, .slice none 0 0, p.k1c.v, p.k1s.v, p.k2c.v, p.k2s.v, p.pe.v, .bool p.came, .bool p.done, .int .u64 (p.wrong : Int)]
def XR (w : World) (b : Nat) (p : PX) : Prop := w.heap[b]? = some (.cells (xc p).toArray 50 (0, 0))
section
variable {w w' : World} {b : Nat} {p : PX}
theorem XR.lt (h : XR w b p) : b < w.heap.size := (Array.getElem?_eq_some_iff.1 h).1
theorem XR.keep (h : XR w b p) (hk : w'.heap[b]? = w.heap[b]?) : XR w' b p := by unfold XR; rw [hk]; exact h
theorem XR.bel (h : XR w b p) (hb : Below w.heap.size w w') : XR w' b p := h.keep (hb.block _ h.lt)
theorem XR.at_ (h : XR w b p) (i : Nat) : w.cell? ⟨b, i, none⟩ = (xc p)[i]? := by unfold XR at h; simp [World.cell?, h]
theorem XR.fr (h : XR w b p) (i : Nat) : w.frozen? ⟨b, i, none⟩ = false := by unfold XR at h; simp [World.frozen?, h]
theorem XR.rng (h : XR w b p) : w.rangeAt b 0 (xc p) := fun j v hv => by rw [Nat.zero_add, h.at_]; exact hv
theorem XR.s0 (h : XR w b p) (v : SA) : XR (w.setCell ⟨b, 0, none⟩ v.v) b { p with o0 := v } := by unfold XR at h ⊢; simp [World.setCell, Array.getElem?_modify, h, xc]
end
theorem xc_one (p : PX) : ∀ v ∈ xc p, v.oneCell' = true := by
  intro v hv
  simp [xc, SA.v] at hv
  rcases hv with rfl | rfl | rfl | rfl | rfl | rfl | rfl | rfl | rfl | rfl | rfl <;> rfl
theorem iState : (Tryd.prog.info? 50).map (·.size) = some 12 := by kernel_rfl
set_option maxHeartbeats 16000000 in
theorem rplay_nil (w : World) {a1 a2 a3 a4 : Option Addr} {n1 c1 n2 c2 n3 c3 n4 c4 : Nat} {id sec par rnd : List UInt8} (hi : BS w a1 n1 c1 id) (hs : BS w a2 n2 c2 sec) (hp : BS w a3 n3 c3 par) (hr : BS w a4 n4 c4 rnd) (m1 : n1 ≤ 1000) (m2 : n2 ≤ 1000) (m3 : n3 ≤ 1000) (m4 : rnd.length = 32) :
    Calls Tryd.prog 19 #[.agg #[.bool false, .slice a1 n1 c1, .slice a2 n2 c2, .slice a3 n3 c3, .slice a4 n4 c4], .slice none 0 0] w fun e w' => ∃ a c, e = .returned (.agg (xc { px0 with o0 := ⟨a, (hH rnd (id.take 64) sec (par.take 512)).length, c⟩ }).toArray) ∧ BS w' a (hH rnd (id.take 64) sec (par.take 512)).length c (hH rnd (id.take 64) sec (par.take 512)) ∧ Below w.heap.size w w' := by
  have hF : Fs w [(⟨a1, n1, c1⟩, id), (⟨a2, n2, c2⟩, sec), (⟨a3, n3, c3⟩, par), (⟨a4, n4, c4⟩, rnd)] := ((((Fs.nil w).cons hr).cons hp).cons hs).cons hi
  obtain ⟨k, hk⟩ : ∃ k, w.heap.size = k := ⟨_, rfl⟩
  obtain ⟨W1, hW1⟩ : ∃ x, (w.alloc (.cells #[.bool false, .slice a1 n1 c1, .slice a2 n2 c2, .slice a3 n3 c3, .slice a4 n4 c4] 24)).alloc (.cells #[.slice none 0 0, .slice none 0 0, .slice none 0 0, .slice none 0 0, .slice none 0 0, .slice none 0 0, .slice none 0 0, .slice none 0 0, .slice none 0 0, .bool false, .bool false, .int .u64 0] 50) = x := ⟨_, rfl⟩
  have hsz : SZ W1 k false (.slice a1 n1 c1) (.slice a2 n2 c2) (.slice a3 n3 c3) (.slice a4 n4 c4) := by rw [← hW1, ← hk]; exact heap_alloc2a w _ _
  have hxr : XR W1 (k + 1) px0 := by rw [← hW1, ← hk]; exact heap_alloc2b w _ _
  have hB1 : Below w.heap.size w W1 := by rw [← hW1]; exact (below_alloc w _).alloc (by simp) _
  have hF1 := hF.bel hB1
  have Hk := Lib.hid hk
  have hcut1 : ∀ w' : World, BS w' a1 n1 c1 id → Calls Tryd.prog 18 #[.slice a1 n1 c1, .int .i64 64] w' fun e w'' => ∃ a c, e = .returned (.slice a (id.take 64).length c) ∧ OW w'' w'.heap.size 5 1 a (id.take 64).length c ((id.take 64).map B) ∧ Below w'.heap.size w' w'' := fun w' h => cutx_any w' h 64 (by omega)
  have hcut2 : ∀ w' : World, BS w' a3 n3 c3 par → Calls Tryd.prog 18 #[.slice a3 n3 c3, .int .i64 512] w' fun e w'' => ∃ a c, e = .returned (.slice a (par.take 512).length c) ∧ OW w'' w'.heap.size 5 1 a (par.take 512).length c ((par.take 512).map B) ∧ Below w'.heap.size w' w'' := fun w' h => cutx_any w' h 512 (by omega)
  obtain ⟨idl, hidl⟩ : ∃ x, id.take 64 = x := ⟨_, rfl⟩
  obtain ⟨pl, hpl⟩ : ∃ x, par.take 512 = x := ⟨_, rfl⟩
  have lid : idl.length ≤ 64 := by rw [← hidl, List.length_take]; omega
  have lpl : pl.length ≤ 512 := by rw [← hpl, List.length_take]; omega
  rw [hidl] at hcut1 ⊢
  rw [hpl] at hcut2 ⊢
  clear hidl hpl
  obtain ⟨ni, hni⟩ : ∃ x, idl.length = x := ⟨_, rfl⟩
  obtain ⟨np, hnp⟩ : ∃ x, pl.length = x := ⟨_, rfl⟩
  rw [hni] at hcut1 lid
  rw [hnp] at hcut2 lpl
  have Hni := Lib.hid hni
  have Hnp := Lib.hid hnp
  have Hcut1 := Lib.hid hcut1
  have Hcut2 := Lib.hid hcut2
  have Hlid := Lib.hid (And.intro lid lpl)
  obtain ⟨HHl, hHHl⟩ : ∃ x, hH rnd idl sec pl = x := ⟨_, rfl⟩
  rw [hHHl]
  have HHH := Lib.hid hHHl
  obtain ⟨nH, hnH⟩ : ∃ x, HHl.length = x := ⟨_, rfl⟩
  rw [hnH]
  have HnH := Lib.hid hnH
  clear hni hnp hcut1 hcut2 lid lpl hHHl hnH
  have HM := Lib.hid (And.intro m1 (And.intro m2 (And.intro m3 m4)))
  have hn4 : n4 = rnd.length := (BS.len (hF.at_ 3 rfl)).symm
  have Hn4 := Lib.hid hn4
  clear hi hs hp hr hF m4 hn4
  go_enter Tryd.func19, Tryd.ntmps19
  go_upto_region 1 with (fail)
  clear hW1 hk
  obtain ⟨V, hV⟩ : ∃ V, W1.drew = V := ⟨_, rfl⟩
  have bV : Below W1.heap.size W1 V := by rw [← hV]; exact (Below.refl _ W1).drew
  have HFV := Lib.hid (hF1.bel bV)
  have HSV := Lib.hid (hsz.bel bV)
  have HXV := Lib.hid (hxr.bel bV)
  have HBV := Lib.hid (btr hB1 bV)
  clear hF1 hsz hxr hB1 bV
  refine wp_region_held_drew (S := fun w' => w'.cell? ⟨k, 1, none⟩ = some (.slice a1 n1 c1) ∧ w'.cell? ⟨k, 3, none⟩ = some (.slice a3 n3 c3)) (by kernel_rfl) (by rw [hV]; exact ⟨HSV.out.c1, HSV.out.c3⟩) (fun hHeld => ?_)
  rw [hV] at hHeld ⊢
  clear hV
  refine wpAnyH_take (i := 0) (v := .pointer (some ⟨k, 1, none⟩)) rfl (by kernel_rfl) (by kernel_rfl) (by kernel_rfl) (fun _ _ _ h => h) (Or.inl ⟨by rfl, fun w h => by go_simp⟩) hHeld ?_
  try simp only [Act.put, List.getElem_toArray, List.getElem_cons_zero, List.setIfInBounds_toArray, List.set_cons_zero, List.set_cons_succ]
  refine wpAnyH_take (i := 1) (v := .slice a1 n1 c1) rfl (by kernel_rfl) (by kernel_rfl) (by kernel_rfl) (fun _ _ _ h => h) (Or.inl ⟨by rfl, fun w h => by have h2 := h.1; go_simp⟩) hHeld ?_
  try simp only [Act.put, List.getElem_toArray, List.getElem_cons_succ, List.getElem_cons_zero, List.setIfInBounds_toArray, List.set_cons_zero, List.set_cons_succ]
  refine wpAnyH_take (i := 3) (v := .pointer (some ⟨k, 3, none⟩)) rfl (by kernel_rfl) (by kernel_rfl) (by kernel_rfl) (fun _ _ _ h => h) (Or.inl ⟨by rfl, fun w h => by go_simp⟩) hHeld ?_
  try simp only [Act.put, List.getElem_toArray, List.getElem_cons_succ, List.getElem_cons_zero, List.setIfInBounds_toArray, List.set_cons_zero, List.set_cons_succ]
  refine wpAnyH_take (i := 4) (v := .slice a3 n3 c3) rfl (by kernel_rfl) (by kernel_rfl) (by kernel_rfl) (fun _ _ _ h => h) (Or.inl ⟨by rfl, fun w h => by have h2 := h.2; go_simp⟩) hHeld ?_
  try simp only [Act.put, List.getElem_toArray, List.getElem_cons_succ, List.getElem_cons_zero, List.setIfInBounds_toArray, List.set_cons_zero, List.set_cons_succ]
  refine wpAnyH_ready (rs := [2]) (by kernel_rfl) (by simp) (AllReadyH.cons rfl (fun K hK => ?_) AllReadyH.nil)
  go_simp
  go_at_call 18
  refine (Hcut1.out V (HFV.out.at_ 0 rfl)).mono ?_
  rintro y w2 ⟨b5, d5, rfl, o5, B2⟩
  have hz2 := HSV.out.bel B2
  refine hK.out _ _ ⟨hz2.c1, hz2.c3⟩ (fun hHeld => ?_)
  clear hK K
  have HZ2 := Lib.hid hz2
  have HX2 := Lib.hid (HXV.out.bel B2)
  have HF2 := Lib.hid ((HFV.out.bel B2).cons o5.rs)
  have HB2 := Lib.hid (btr HBV.out B2)
  clear hz2 o5 B2 HFV HSV HXV HBV
  try simp only [Act.put, List.getElem_toArray, List.getElem_cons_succ, List.getElem_cons_zero, List.setIfInBounds_toArray, List.set_cons_zero, List.set_cons_succ]
  refine wpAnyH_ready (rs := [5]) (by kernel_rfl) (by simp) (AllReadyH.cons rfl (fun K hK => ?_) AllReadyH.nil)
  go_simp
  go_at_call 18
  refine (Hcut2.out w2 (HF2.out.at_ 3 rfl)).mono ?_
  rintro y w3 ⟨b6, d6, rfl, o6, B3⟩
  have hz3 := HZ2.out.bel B3
  refine hK.out _ _ ⟨hz3.c1, hz3.c3⟩ (fun hHeld => ?_)
  clear hK K
  have HZ3 := Lib.hid hz3
  have HX3 := Lib.hid (HX2.out.bel B3)
  have HF3 := Lib.hid ((HF2.out.bel B3).cons o6.rs)
  have HB3 := Lib.hid (btr HB2.out B3)
  clear hz3 o6 B3 HF2 HZ2 HX2 HB2
  try simp only [Act.put, List.getElem_toArray, List.getElem_cons_succ, List.getElem_cons_zero, List.setIfInBounds_toArray, List.set_cons_zero, List.set_cons_succ]
  refine wpAnyH_take (i := 6) (v := .slice b5 ni d5) rfl (by kernel_rfl) (by kernel_rfl) (by kernel_rfl) (fun _ _ _ h => h) (Or.inl ⟨by rfl, fun w h => by go_simp⟩) hHeld ?_
  try simp only [Act.put, List.getElem_toArray, List.getElem_cons_succ, List.getElem_cons_zero, List.setIfInBounds_toArray, List.set_cons_zero, List.set_cons_succ]
  refine wpAnyH_take (i := 7) (v := .slice b6 np d6) rfl (by kernel_rfl) (by kernel_rfl) (by kernel_rfl) (fun _ _ _ h => h) (Or.inl ⟨by rfl, fun w h => by go_simp⟩) hHeld ?_
  try simp only [Act.put, List.getElem_toArray, List.getElem_cons_succ, List.getElem_cons_zero, List.setIfInBounds_toArray, List.set_cons_zero, List.set_cons_succ]
  refine wpAnyH_done (by kernel_rfl) ?_ _
  try simp only [Act.put, List.getElem_toArray, List.getElem_cons_succ, List.getElem_cons_zero]
  clear hHeld
  -- zero
  go_upto_region 3 with (refine L_make tB w3.heap.size 32 rfl rfl _ _ rfl rfl .i64 .i64 32 32 rfl rfl rfl rfl (by omega) (by unfold maxLen; omega) (Nat.le_refl _) ?_; intro w4 o7 g4)
  have o7z : OW w4 w3.heap.size 5 1 (some ⟨w3.heap.size, 0, none⟩) 32 32 (z32.map B) := o7
  have B4 : Below w3.heap.size w3 w4 := below_none (Below.refl _ w3) g4 (Nat.le_refl _)
  have HZ4 := Lib.hid (HZ3.out.bel B4)
  have HX4 := Lib.hid (HX3.out.bel B4)
  have HF4 := Lib.hid ((HF3.out.bel B4).cons o7z.rs)
  have HB4 := Lib.hid (btr HB3.out B4)
  obtain ⟨bz, hbz⟩ : ∃ x, w3.heap.size = x := ⟨_, rfl⟩
  rw [hbz] at HF4 ⊢
  clear o7 o7z g4 B4 HZ3 HX3 HF3 HB3 hbz
  -- the digest of nothing, and the keys
  obtain ⟨E, hE⟩ : ∃ E, sumF [] = E := ⟨_, rfl⟩
  have hEl : E.length = 32 := by rw [← hE]; exact sumF_len _
  obtain ⟨Y, hY⟩ : ∃ Y, earF sec = Y := ⟨_, rfl⟩
  obtain ⟨D, hD⟩ : ∃ D, labF Y [101, 120, 116, 32, 98, 105, 110, 100, 101, 114] E = D := ⟨_, rfl⟩
  have hsum : ∀ w', Calls Tryd.prog 28 #[.slice none 0 0] w' fun e w'' => ∃ a' c', e = .returned (.slice a' 32 c') ∧ OW w'' w'.heap.size 5 1 a' 32 c' (E.map B) ∧ Below w'.heap.size w' w'' := fun w' => by
    have h := rsum_any w' (p := []) (RS_nil w' 1) (by omega)
    rw [hE] at h; exact h
  have hear : ∀ w', BS w' (some ⟨bz, 0, none⟩) 32 32 z32 → BS w' a2 n2 c2 sec → Calls Tryd.prog 29 #[.slice (some ⟨bz, 0, none⟩) 32 32, .slice a2 n2 c2] w' fun e w'' => ∃ a' c', e = .returned (.slice a' 32 c') ∧ OW w'' w'.heap.size 5 1 a' 32 c' (Y.map B) ∧ Below w'.heap.size w' w'' := fun w' h1 h2 => by
    have h := rmacF_any w' h1 h2 (by omega) (by omega)
    rw [show macF z32 sec = Y from hY] at h; exact h
  have Hsum := Lib.hid hsum
  have Hear := Lib.hid hear
  have HE := Lib.hid (And.intro hE (And.intro hY hD))
  have Hl := Lib.hid (show E.length = 32 ∧ Y.length = 32 from ⟨hEl, by rw [← hY]; exact earF_len _⟩)
  clear hsum hear hE hY hD hEl
  go_upto_region 4 with (go_at_call 28; (with_reducible refine (Hsum.out w4).mono ?_); rintro x w5 ⟨b8, d8, rfl, o8, B5⟩)
  have HZ5 := Lib.hid (HZ4.out.bel B5)
  have HX5 := Lib.hid (HX4.out.bel B5)
  have HF5 := Lib.hid ((HF4.out.bel B5).cons o8.rs)
  have HB5 := Lib.hid (btr HB4.out B5)
  clear HZ4 HX4 HF4 HB4
  clear o8 B5
  have q := HZ5.out.c2
  go_upto_region 5 with (go_at_call 29; (with_reducible refine (Hear.out w5 (HF5.out.at_ 1 rfl) (HF5.out.at_ 5 rfl)).mono ?_); rintro x w6 ⟨b9, d9, rfl, o9, B6⟩)
  have HZ6 := Lib.hid (HZ5.out.bel B6)
  have HX6 := Lib.hid (HX5.out.bel B6)
  have HF6 := Lib.hid ((HF5.out.bel B6).cons o9.rs)
  have HB6 := Lib.hid (btr HB5.out B6)
  clear HZ5 HX5 HF5 HB5
  clear o9 B6 q
  obtain ⟨K1, hK1⟩ : ∃ x, labF Y [100, 101, 114, 105, 118, 101, 100] E = x := ⟨_, rfl⟩
  obtain ⟨H, hH1⟩ : ∃ x, macF K1 z32 = x := ⟨_, rfl⟩
  obtain ⟨K2, hK2⟩ : ∃ x, labF H [100, 101, 114, 105, 118, 101, 100] E = x := ⟨_, rfl⟩
  obtain ⟨M, hM1⟩ : ∃ x, macF K2 z32 = x := ⟨_, rfl⟩
  have hkey : ∀ (key : List UInt8) (w' : World) (a b : Option Addr) (c d : Nat), BS w' a 32 c key → BS w' b 32 d E → Calls Tryd.prog 30 #[.slice a 32 c, .string { data := #[100, 101, 114, 105, 118, 101, 100] }, .slice b 32 d] w' fun e w'' => ∃ a c, e = .returned (.slice a 32 c) ∧ BS w'' a 32 c (labF key [100, 101, 114, 105, 118, 101, 100] E) ∧ Below w'.heap.size w' w'' ∧ ∀ ad, a = some ad → w'.heap.size ≤ ad.block := fun key w' a b c d h1 h2 => rkey_any w' { data := #[100, 101, 114, 105, 118, 101, 100] } h1 h2 (by omega) (by decide) (by omega)
  have hext : ∀ (w' : World) (a b : Option Addr) (c d : Nat), BS w' a 32 c Y → BS w' b 32 d E → Calls Tryd.prog 30 #[.slice a 32 c, .string { data := #[101, 120, 116, 32, 98, 105, 110, 100, 101, 114] }, .slice b 32 d] w' fun e w'' => ∃ a c, e = .returned (.slice a 32 c) ∧ BS w'' a 32 c D ∧ Below w'.heap.size w' w'' ∧ ∀ ad, a = some ad → w'.heap.size ≤ ad.block := fun w' a b c d h1 h2 => by
    have h := rkey_any w' { data := #[101, 120, 116, 32, 98, 105, 110, 100, 101, 114] } h1 h2 (by omega) (by decide) (by omega)
    rw [show labF Y (ByteArray.mk #[101, 120, 116, 32, 98, 105, 110, 100, 101, 114]).data.toList E = D from HE.out.2.2] at h
    exact h
  have hk1 := hkey Y
  rw [hK1] at hk1
  have hk2 := hkey H
  rw [hK2] at hk2
  have hm1 : ∀ (w' : World) (a b : Option Addr) (c d : Nat), BS w' a 32 c K1 → BS w' b 32 d z32 → Calls Tryd.prog 29 #[.slice a 32 c, .slice b 32 d] w' fun e w'' => ∃ a' c', e = .returned (.slice a' 32 c') ∧ OW w'' w'.heap.size 5 1 a' 32 c' (H.map B) ∧ Below w'.heap.size w' w'' := fun w' a b c d h1 h2 => by
    have h := rmacF_any w' h1 h2 (by omega) (by omega)
    rw [hH1] at h; exact h
  have hm2 : ∀ (w' : World) (a b : Option Addr) (c d : Nat), BS w' a 32 c K2 → BS w' b 32 d z32 → Calls Tryd.prog 29 #[.slice a 32 c, .slice b 32 d] w' fun e w'' => ∃ a' c', e = .returned (.slice a' 32 c') ∧ OW w'' w'.heap.size 5 1 a' 32 c' (M.map B) ∧ Below w'.heap.size w' w'' := fun w' a b c d h1 h2 => by
    have h := rmacF_any w' h1 h2 (by omega) (by omega)
    rw [hM1] at h; exact h
  have Hk1 := Lib.hid hk1
  have Hk2 := Lib.hid hk2
  have Hext := Lib.hid hext
  have Hm1 := Lib.hid hm1
  have Hm2 := Lib.hid hm2
  have HKM := Lib.hid (And.intro hK1 (And.intro hH1 (And.intro hK2 hM1)))
  clear hkey hext hk1 hk2 hm1 hm2 hK1 hH1 hK2 hM1
  go_upto_region 6 with (first
    | (go_at_call 30; (with_reducible refine (Hk1.out w6 _ _ _ _ (HF6.out.at_ 0 rfl) (HF6.out.at_ 1 rfl)).mono ?_); rintro x wk7 ⟨ak, ck, rfl, k1, Bk, nk⟩)
    | (go_at_call 29; (with_reducible refine (Hm1.out wk7 _ _ _ _ k1 (RS.below (HF6.out.at_ 2 rfl) Bk (Nat.le_refl _))).mono ?_); rintro x w7 ⟨b10, d10, rfl, o10, Bm⟩))
  have B7 := btr Bk Bm
  have HZ7 := Lib.hid (HZ6.out.bel B7)
  have HX7 := Lib.hid (HX6.out.bel B7)
  have HF7 := Lib.hid ((HF6.out.bel B7).cons (o10.rs))
  have HB7 := Lib.hid (btr HB6.out B7)
  clear HZ6 HX6 HF6 HB6
  clear k1 nk Bk Bm o10 B7 Hk1 Hm1
  go_upto_region 7 with (first
    | (go_at_call 30; (with_reducible refine (Hk2.out w7 _ _ _ _ (HF7.out.at_ 0 rfl) (HF7.out.at_ 2 rfl)).mono ?_); rintro x wk8 ⟨ak, ck, rfl, k1, Bk, nk⟩)
    | (go_at_call 29; (with_reducible refine (Hm2.out wk8 _ _ _ _ k1 (RS.below (HF7.out.at_ 3 rfl) Bk (Nat.le_refl _))).mono ?_); rintro x w8 ⟨b11, d11, rfl, o11, Bm⟩))
  have B8 := btr Bk Bm
  have HZ8 := Lib.hid (HZ7.out.bel B8)
  have HX8 := Lib.hid (HX7.out.bel B8)
  have HF8 := Lib.hid ((HF7.out.bel B8).cons (o11.rs))
  have HB8 := Lib.hid (btr HB7.out B8)
  clear HZ7 HX7 HF7 HB7
  clear k1 nk Bk Bm o11 B8 Hk2 Hm2
  go_upto_region 8 with (go_at_call 30; (with_reducible refine (Hext.out w8 _ _ _ _ (HF8.out.at_ 2 rfl) (HF8.out.at_ 3 rfl)).mono ?_); rintro x w9 ⟨b12, d12, rfl, k1, B9, nk⟩)
  have HZ9 := Lib.hid (HZ8.out.bel B9)
  have HX9 := Lib.hid (HX8.out.bel B9)
  have HF9 := Lib.hid ((HF8.out.bel B9).cons k1)
  have HB9 := Lib.hid (btr HB8.out B9)
  clear HZ8 HX8 HF8 HB8
  clear k1 nk B9 Hext
  go_upto_region 9 with (fail)
  obtain ⟨w10, hw10⟩ : ∃ x, w9.alloc (.cells #[.slice none 0 0, .slice none 0 0, .slice none 0 0, .slice none 0 0, .slice none 0 0, .slice none 0 0, .slice none 0 0, .slice none 0 0, .slice none 0 0, .bool false, .bool false, .int .u64 0] 50) = x := ⟨_, rfl⟩
  obtain ⟨kx, hkx⟩ : ∃ x, w9.heap.size = x := ⟨_, rfl⟩
  have hX : XR w10 kx px0 := by rw [← hw10, ← hkx]; exact heap_alloc_new _ _
  have Bx : Below w9.heap.size w9 w10 := by rw [← hw10]; exact below_alloc _ _
  have HKX := Lib.hid (show w.heap.size ≤ kx ∧ k < kx ∧ k + 1 < kx from ⟨by have := HB9.out.size; omega, by have := HZ9.out.lt; omega, by have := HX9.out.lt; omega⟩)
  rw [hw10, hkx]
  have HZ10 := Lib.hid (HZ9.out.bel Bx)
  have HX10 := Lib.hid (HX9.out.bel Bx)
  have HF10 := Lib.hid ((HF9.out.bel Bx))
  have HB10 := Lib.hid (btr HB9.out Bx)
  clear HZ9 HX9 HF9 HB9
  have HX0 := Lib.hid hX
  clear hX Bx hw10 hkx
  obtain ⟨T1, hT1⟩ : ∃ x, textS idl = x := ⟨_, rfl⟩
  obtain ⟨T2, hT2⟩ : ∃ x, textS pl = x := ⟨_, rfl⟩
  obtain ⟨t1, ht1⟩ : ∃ x, vsz ni + ni = x := ⟨_, rfl⟩
  obtain ⟨t2, ht2⟩ : ∃ x, vsz np + np = x := ⟨_, rfl⟩
  have htx1 : ∀ w' : World, BS w' b5 ni d5 idl → Calls Tryd.prog 31 #[.slice b5 ni d5] w' fun e w'' => ∃ a c, e = .returned (.slice a t1 c) ∧ OW w'' w'.heap.size 5 1 a t1 c (T1.map B) ∧ Below w'.heap.size w' w'' := fun w' h => by
    have h := rtext_any w' h (by have := Hlid.out.1; omega)
    rw [hT1, ht1] at h; exact h
  have htx2 : ∀ w' : World, BS w' b6 np d6 pl → Calls Tryd.prog 31 #[.slice b6 np d6] w' fun e w'' => ∃ a c, e = .returned (.slice a t2 c) ∧ OW w'' w'.heap.size 5 1 a t2 c (T2.map B) ∧ Below w'.heap.size w' w'' := fun w' h => by
    have h := rtext_any w' h (by have := Hlid.out.2; omega)
    rw [hT2, ht2] at h; exact h
  have lt1 : t1 ≤ 66 := by have := vsz_bd ni; have := Hlid.out.1; omega
  have lt2 : t2 ≤ 514 := by have := vsz_bd np; have := Hlid.out.2; omega
  have ln4 : n4 ≤ 32 := by rw [Hn4.out, HM.out.2.2.2]; exact Nat.le_refl _
  have Htx1 := Lib.hid htx1
  have Htx2 := Lib.hid htx2
  have HT := Lib.hid (And.intro hT1 hT2)
  have u0 := HZ10.out.c0
  have u4 := HZ10.out.c4
  clear htx1 htx2 hT1 hT2 ht1 ht2
  go_upto_region 12 with (first
    | (go_at_call 20; (with_reducible refine (copy_any w10 (HF10.out.at_ 11 rfl) (by omega)).mono ?_); rintro x wa ⟨ac, cc, rfl, oc, Bc⟩; have fid := RS.below (HF10.out.at_ 7 rfl) Bc (Nat.le_refl _))
    | (go_at_call 31; (with_reducible refine (Htx1.out wa fid).mono ?_); rintro x wb ⟨at1, ct1, rfl, ot1, Bt1⟩; have oc2 := oc.below Bt1 (Nat.le_refl _); have Bb := btr Bc Bt1)
    | (at_builtin; refine L_append tB oc2 ot1.rs _ _ rfl rfl rfl rfl (by omega) (by unfold maxLen; omega) Bb.size ?_; intro ad1 cd1 wd od1 gd1; have Bd := below_own Bb oc2 gd1 (Nat.le_refl _) Bb.size; have fpa := RS.below (HF10.out.at_ 6 rfl) Bd (Nat.le_refl _))
    | (go_at_call 31; (with_reducible refine (Htx2.out wd fpa).mono ?_); rintro x we ⟨at2, ct2, rfl, ot2, Bt2⟩; have od2 := od1.below Bt2 (Nat.le_refl _); have Be := Bd.trans (Bt2.mono Bd.size))
    | (at_builtin; refine L_append tB od2 ot2.rs _ _ rfl rfl rfl rfl (by omega) (by unfold maxLen; omega) Be.size ?_; intro af cf wf of1 gf; have Bf := below_own Be od2 gf (Nat.le_refl _) Be.size))
  obtain ⟨P, hP⟩ : ∃ x, rnd ++ T1 ++ T2 = x := ⟨_, rfl⟩
  obtain ⟨nP, hnP⟩ : ∃ x, n4 + t1 + t2 = x := ⟨_, rfl⟩
  have oP : OW wf w10.heap.size 5 1 af nP cf (P.map B) := by rw [← hP, ← hnP, List.map_append, List.map_append]; exact of1
  have lP : nP ≤ 700 := by omega
  have HP := Lib.hid hP
  have HOP := Lib.hid oP
  rw [hnP]
  have Bf' := Lib.hid Bf
  clear u0 u4 oc Bc fid ot1 Bt1 oc2 Bb od1 gd1 Bd fpa ot2 Bt2 od2 Be of1 gf Bf oP hP hnP lt1 lt2 ln4 Htx1 Htx2
  have S10 := Lib.hid (And.intro HZ10.out (And.intro HX0.out (And.intro HF10.out (And.intro HB10.out HX10.out))))
  have HZ11 := Lib.hid (HZ10.out.bel Bf'.out)
  have HX11 := Lib.hid (HX10.out.bel Bf'.out)
  have HF11 := Lib.hid ((HF10.out.bel Bf'.out))
  have HB11 := Lib.hid (btr HB10.out Bf'.out)
  clear HZ10 HX10 HF10 HB10
  obtain ⟨X, hX⟩ : ∃ x, gmsg 1 (P ++ z32) = x := ⟨_, rfl⟩
  obtain ⟨nX, hnX⟩ : ∃ x, 4 + (nP + 32) = x := ⟨_, rfl⟩
  have hmg : ∀ (w' : World) (a : Option Addr) (c : Nat), BS w' a (nP + 32) c (P ++ z32) → Calls Tryd.prog 32 #[.int .u8 1, .slice a (nP + 32) c] w' fun e w'' => ∃ a' c', e = .returned (.slice a' nX c') ∧ OW w'' w'.heap.size 5 1 a' nX c' (X.map B) ∧ Below w'.heap.size w' w'' := fun w' a c h => by
    have h := rmsg_any w' 1 (by decide) h (by omega)
    rw [hX, hnX] at h; exact h
  have Hmg := Lib.hid hmg
  have HX1 := Lib.hid hX
  clear hmg hX
  go_upto_region 13 with (first
    | (go_at_call 20; (with_reducible refine (copy_any wf HOP.out.rs (by omega)).mono ?_); rintro x wa ⟨ac, cc, rfl, oc, Bc⟩; have fz := RS.below (HF11.out.at_ 5 rfl) Bc (Nat.le_refl _))
    | (at_builtin; refine L_append tB oc fz _ _ rfl rfl rfl rfl (by omega) (by unfold maxLen; omega) Bc.size ?_; intro ad1 cd1 wd od1 gd1; have Bd := below_own Bc oc gd1 (Nat.le_refl _) Bc.size; have fq : BS wd ad1 (nP + 32) cd1 (P ++ z32) := (by unfold BS; rw [List.map_append]; exact od1.rs))
    | (go_at_call 32; (with_reducible refine (Hmg.out wd _ _ fq).mono ?_); rintro x wg ⟨ag, cg, rfl, og, Bg⟩; have Be := Bd.trans (Bg.mono Bd.size)))
  have HOX := Lib.hid og.rs
  have HOP2 := Lib.hid (HOP.out.below Be (Nat.le_refl _))
  have Be' := Lib.hid Be
  clear oc Bc fz od1 gd1 Bd fq og Bg Be Hmg HOP
  have HZ12 := Lib.hid (HZ11.out.bel Be'.out)
  have HX12 := Lib.hid (HX11.out.bel Be'.out)
  have HF12 := Lib.hid ((HF11.out.bel Be'.out))
  have HB12 := Lib.hid (btr HB11.out Be'.out)
  clear HZ11 HX11 HF11 HB11
  have hnX2 : nX = nP + 36 := by omega
  clear hnX
  obtain ⟨nY, hnY⟩ : ∃ x, nP + 4 = x := ⟨_, rfl⟩
  have hnY2 : nX = nY + 32 := by omega
  have lX : nX ≤ 1000 := by omega
  have HnX := Lib.hid (And.intro hnX2 hnY)
  clear hnX2 hnY
  have hwr : IntKind.i64.wrap ((nX : Int) - 32) = (nY : Int) := by rw [IntWalk.i64_in _ (by omega)]; omega
  have hY1 : nY ≤ nX := by omega
  have HY2 := Lib.hid hnY2
  clear hnY2
  obtain ⟨MB, hMB⟩ : ∃ x, fmF D (X.take nY) = x := ⟨_, rfl⟩
  have hfm : ∀ (w' : World) (a b : Option Addr) (c d : Nat), BS w' a 32 c D → BS w' b nY d (X.take nY) → Calls Tryd.prog 33 #[.slice a 32 c, .slice b nY d] w' fun e w'' => ∃ a' c', e = .returned (.slice a' 32 c') ∧ OW w'' w'.heap.size 5 1 a' 32 c' (MB.map B) ∧ Below w'.heap.size w' w'' := fun w' a b c d h1 h2 => by
    have h := rfm_any w' h1 h2 (by omega) (by omega)
    rw [hMB] at h; exact h
  have lP2 : P.length = nP := BS.len (show BS wg af nP cf P from HOP2.out.rs)
  have lMB : MB.length = 32 := by rw [← hMB]; exact fmF_len _ _
  have e1 : gmsg 1 (P ++ MB) = HHl := by
    rw [← HHH.out]
    unfold hH hB
    have eP : hP rnd idl pl = P := by unfold hP; rw [HT.out.1, HT.out.2, HP.out]
    have eX : (gmsg 1 (P ++ z32)).length - 32 = nY := by rw [gmsg_len, List.length_append, z32_len]; have := HnX.out; omega
    have eB : binF sec (X.take nY) = MB := by
      unfold binF
      rw [HE.out.1, HE.out.2.1, HE.out.2.2]; exact hMB
    rw [eP, eX, HX1.out, eB]
  have e2 : 4 + (nP + 32) = nH := by
    rw [← HnH.out, ← e1, gmsg_len, List.length_append]; omega
  have hmg : ∀ (w' : World) (a : Option Addr) (c : Nat), BS w' a (nP + 32) c (P ++ MB) → Calls Tryd.prog 32 #[.int .u8 1, .slice a (nP + 32) c] w' fun e w'' => ∃ a' c', e = .returned (.slice a' nH c') ∧ OW w'' w'.heap.size 5 1 a' nH c' (HHl.map B) ∧ Below w'.heap.size w' w'' := fun w' a c h => by
    have h := rmsg_any w' 1 (by decide) h (by omega)
    rw [e1, e2] at h; exact h
  have lnH : nH ≤ 1000 := by omega
  have Hfm := Lib.hid hfm
  have Hmg := Lib.hid hmg
  have HXr := Lib.hid (show BS wg ag nX cg X from HOX.out)
  clear hfm hmg hMB lP2 lMB e1 e2
  have Bw := Bf'.out.trans (Be'.out.mono Bf'.out.size)
  go_upto_region 14 with (first
    | (refine L_slice_h tB HOX.out nY _ _ rfl rfl .i64 _ rfl rfl (by first | exact hwr | omega) hY1 ?_; intro hb6; have fs : BS wg ag nY cg (X.take nY) := (by unfold BS; rw [List.map_take]; simpa using hb6))
    | (go_at_call 33; (with_reducible refine (Hfm.out wg _ _ _ _ (HF12.out.at_ 0 rfl) fs).mono ?_); rintro x wa ⟨am, cm, rfl, om, Bm⟩; have op := HOP2.out.below Bm (Nat.le_refl _); have Bwa := Bw.trans (Bm.mono Bw.size))
    | (at_builtin; refine L_append tB op om.rs _ _ rfl rfl rfl rfl (by omega) (by unfold maxLen; omega) Bwa.size ?_; intro ad1 cd1 wd od1 gd1; have fq : BS wd ad1 (nP + 32) cd1 (P ++ MB) := (by unfold BS; rw [List.map_append]; exact od1.rs))
    | (go_at_call 32; (with_reducible refine (Hmg.out wd _ _ fq).mono ?_); rintro x wh ⟨ah, ch, rfl, oh, Bh⟩))
  have Bwd := below_own Bwa op gd1 (Nat.le_refl _) Bwa.size
  have Bwh := Bwd.trans (Bh.mono Bwd.size)
  have HX9 := Lib.hid (S10.out.2.1.keep (Bwh.block _ S10.out.2.1.lt))
  have HB9 := Lib.hid (S10.out.2.2.2.1.trans (Bwh.mono S10.out.2.2.2.1.size))
  have HZ9 := Lib.hid (S10.out.1.keep (Bwh.block _ S10.out.1.lt))
  have HR9 := Lib.hid (S10.out.2.2.2.2.keep (Bwh.block _ S10.out.2.2.2.2.lt))
  have HOH := Lib.hid (show BS wh ah nH ch HHl from oh.rs)
  clear hb6 fs om Bm op Bwa od1 gd1 fq oh Bh Bwd Bw Bwh hwr Hfm Hmg HOX HOP2 S10 HZ12 HX12 HF12 HB12
  go_upto_region 15 with (go_at_call 20; (with_reducible refine (copy_any wh HOH.out (by omega)).mono ?_); rintro x wi ⟨ai, ci, rfl, oi, Bi⟩; have xi := HX9.out.bel Bi; have g0 := xi.at_ 0; have f0 := xi.fr 0)
  have hb14 := grownBy_setCell wi ⟨kx, 0, none⟩ (.slice ai nH ci)
  have xj : XR (wi.setCell ⟨kx, 0, none⟩ (.slice ai nH ci)) kx { px0 with o0 := ⟨ai, nH, ci⟩ } := xi.s0 ⟨ai, nH, ci⟩
  have zj := (HZ9.out.bel Bi).keep (hb14.block _ (HZ9.out.bel Bi).lt (fun he => by injection he with he; have he : k = kx := he; have := HKX.out.2.1; omega))
  have rj := (HR9.out.bel Bi).keep (hb14.block _ (HR9.out.bel Bi).lt (fun he => by injection he with he; have he : k + 1 = kx := he; have := HKX.out.2.2; omega))
  have bj : Below w.heap.size w (wi.setCell ⟨kx, 0, none⟩ (.slice ai nH ci)) := (HB9.out.trans (Bi.mono HB9.out.size)).grown hb14 (Nat.le_trans HB9.out.size Bi.size) (fun j hj => by cases hj; exact HKX.out.1)
  have oj : BS (wi.setCell ⟨kx, 0, none⟩ (.slice ai nH ci)) ai nH ci HHl := RS.setOther oi.rs (fun y hy he => by have := (oi.base_le hy).1; have := HX9.out.lt; have he : y.block = kx := he; omega) _
  obtain ⟨wj, hwj⟩ : ∃ x, wi.setCell ⟨kx, 0, none⟩ (.slice ai nH ci) = x := ⟨_, rfl⟩
  rw [hwj] at xj zj rj bj oj ⊢
  have HXJ := Lib.hid xj
  have HRJ := Lib.hid rj
  have HBJ := Lib.hid bj
  have HOJ := Lib.hid oj
  have HZJ := Lib.hid zj
  have u0 := zj.c0
  have HAI := Lib.hid (show ∀ y, ai = some y → y.block ≠ k + 1 from fun y hy he => by have := (oi.base_le hy).1; have := HR9.out.lt; omega)
  clear hb14 xj zj rj bj oj hwj xi g0 f0 oi Bi HX9 HZ9 HR9 HB9 HOH
  go_upto_region 16 with (fail)
  obtain ⟨wk, hwk⟩ : ∃ x, (wj.alloc (.cells #[.int .u8 1, .int .u8 20] 5)).alloc (.cells #[.int .i64 0, .int .i64 1] 3) = x := ⟨_, rfl⟩
  have bk : Below wj.heap.size wj wk := by rw [← hwk]; exact (below_alloc wj _).alloc (by simp) _
  rw [hwk]
  have u1 := (HZJ.out.bel bk).c0
  clear u0 hwk
  go_upto_region 18 with (fail)
  obtain ⟨wl, hwl⟩ : ∃ x, (wk.alloc (.cells #[.int .u8 2, .int .u8 8, .int .u8 20] 5)).alloc (.cells #[.int .i64 0, .int .i64 1, .int .i64 1] 3) = x := ⟨_, rfl⟩
  have bl : Below wk.heap.size wk wl := by rw [← hwl]; exact (below_alloc wk _).alloc (by simp) _
  rw [hwl]
  clear u1 hwl
  go_upto_region 20 with (fail)
  obtain ⟨wm, hwm⟩ : ∃ x, wl.alloc (.cells #[.slice none 0 0, .slice none 0 0] 47) = x := ⟨_, rfl⟩
  have bm : Below wl.heap.size wl wm := by rw [← hwm]; exact below_alloc wl _
  rw [hwm]
  have bjm := btr bk (btr bl bm)
  have HXM := Lib.hid (HXJ.out.bel bjm)
  have HRM := Lib.hid (HRJ.out.bel bjm)
  have HBM := Lib.hid (HBJ.out.trans (bjm.mono HBJ.out.size))
  have HOM := Lib.hid (RS.below HOJ.out bjm (Nat.le_refl _))
  have Hrg := Lib.hid HXM.out.rng
  clear hwm bk bl bm bjm HXJ HRJ HBJ HOJ HZJ
  refine wp_loop_rounds 1 ?_
  rw [rounds_succ]
  go_wp2_with (first
    | (refine wpList_load_mid rfl _ _ rfl _ _ rfl _ _ Hrg.out Tryd.underlying50 rfl iState ?_)
    | (refine L_storeRow (old := xc px0) rfl 50 _ _ rfl rfl rfl HRM.out iState rfl rfl (xc_one _) ?_; intro wn hzn hgn))
  have bn : Below w.heap.size w wn := HBM.out.grown hgn HBM.out.size (fun j hj => by cases hj; have := Hk.out; omega)
  have on_ : BS wn ai nH ci HHl := RS.grown HOM.out hgn (fun y hy he => by injection he with he; exact HAI.out y hy he)
  exact bodyPost_ret_by (results_cell_row rfl _ _ _ _ _ _ _ rfl hzn Tryd.underlying50 rfl iState) rfl ⟨ai, ci, rfl, on_, bn⟩
end Go.Proofs.YtkhcpnmbhbhcgaaDoor

/- Greet: the code that a meeting of two ends with (plain). -/
set_option maxRecDepth 100000
set_option linter.unusedVariables false
namespace Go.Proofs.YtkhcpnmbhbhcgaaDoor
open Go.RowKit Go.Joins
section
variable {rA rB id sec pA pB : List UInt8}
theorem feedM_one (part lv : Nat) (p : List UInt8) (S : MS) (hp : p ≠ []) (hl : p.length ≤ part) (hw : (hearM lv p S).wrong ≠ 0) : feedM part lv p.length p S = (hearM lv p S, (hearM lv p S).wrong) := by
  obtain ⟨k, hk⟩ : ∃ k, p.length = k + 1 := ⟨p.length - 1, by have := List.length_pos_iff.2 hp; omega⟩
  rw [hk, feedM, if_neg hp, List.take_of_length_le hl, if_pos hw]
theorem meet_wrong (part : Nat) (hrA : rA.length = 32) (hi : id.length ≤ 64) (hpA : pA.length ≤ 512) (hpart : 1000 ≤ part) (S : MS) {k : Nat} (hk : k ≠ 0) (hw : (hearM 0 (hH rA id sec pA) S).wrong = k) :
    (meetM part 6 (newM false rA id sec pA) S).2.2 = k := by
  have hl := hP_len (id := id) hrA hi hpA
  have hne : hH rA id sec pA ≠ [] := by
    intro h
    have := congrArg List.length h
    unfold hH at this
    rw [gmsg_len] at this; simp at this
  have hlen : (hH rA id sec pA).length ≤ part := by unfold hH; rw [gmsg_len, hB_len]; omega
  have hf := feedM_one part 0 (hH rA id sec pA) S hne hlen (by rw [show ((0 : Nat) : Int) = 0 from rfl, hw]; exact hk)
  rw [show ((0 : Nat) : Int) = 0 from rfl, hw] at hf
  have hL : (feedL part [(0, hH rA id sec pA)] S) = (hearM 0 (hH rA id sec pA) S, k) := by
    rw [feedL]
    dsimp only
    rw [hf, if_pos hk]
  rw [new_cl, meetM, out_cl0]
  dsimp only
  rw [hL, if_pos hk]
/-- with another name -/
theorem code_name (part : Nat) (hpart : 1000 ≤ part) (hrA : rA.length = 32) (hi : id.length ≤ 64) (hpA : pA.length ≤ 512) (idB secB : List UInt8) (h : id ≠ idB) :
    (meetM part 6 (newM false rA id sec pA) (newM true rB idB secB pB)).2.2 = 371 := by
  refine meet_wrong part hrA hi hpA hpart _ (by decide) ?_
  rw [sv_hears hrA hi hpA, if_pos h]
theorem code_secret (part : Nat) (hpart : 1000 ≤ part) (hrA : rA.length = 32) (hi : id.length ≤ 64) (hpA : pA.length ≤ 512) (secB : List UInt8) (h : hH rA id sec pA ≠ hH rA id secB pA) :
    (meetM part 6 (newM false rA id sec pA) (newM true rB id secB pB)).2.2 = 307 := by
  refine meet_wrong part hrA hi hpA hpart _ (by decide) ?_
  rw [sv_hears hrA hi hpA, if_neg (by simp), if_pos]
  intro he
  apply h
  unfold hH hB
  rw [he]
theorem code_same (part : Nat) (hpart : 0 < part) (hrA : rA.length = 32) (hrB : rB.length = 32) (hi : id.length ≤ 64) (hpA : pA.length ≤ 512) (hpB : pB.length ≤ 512) :
    (meetM part 6 (newM false rA id sec pA) (newM true rB id sec pB)).2.2 = 0 := by
  rw [meet_all part hpart hrA hrB hi hpA hpB]
end
end Go.Proofs.YtkhcpnmbhbhcgaaDoor

/- law13.GreetParts: its walk. -/
set_option maxRecDepth 100000
set_option linter.unusedVariables false
namespace Go.Proofs.YtkhcpnmbhbhcgaaDoor
open Go.RowKit Go.Joins
theorem field_0 (W : World) (v0 v1 v2 v3 v4 v5 v6 v7 v8 v9 v10 v11 : Value) : (Instr.field 50 (.agg #[v0, v1, v2, v3, v4, v5, v6, v7, v8, v9, v10, v11]) 0).run Tryd.prog W = .ok (.agg #[v0, v1]) W := by kernel_rfl
theorem index_0 (W : World) (a b : Option Addr) (n c m d : Nat) : (Instr.index 47 (.agg #[.slice a n c, .slice b m d]) (.int .i64 0)).run Tryd.prog W = .ok (.slice a n c) W := by kernel_rfl
set_option maxHeartbeats 8000000 in
theorem greetParts_walk (W : World) (sa sb : Bool) {a1 a2 a3 a4 b1 b2 b3 b4 : Option Addr} {n1 c1 n2 c2 n3 c3 n4 c4 m1 d1 m2 d2 m3 d3 m4 d4 : Nat} {idA secA parA rndA idB secB parB rndB : List UInt8} (hia : BS W a1 n1 c1 idA) (hsa : BS W a2 n2 c2 secA) (hpa : BS W a3 n3 c3 parA) (hra : BS W a4 n4 c4 rndA) (hib : BS W b1 m1 d1 idB) (hsb : BS W b2 m2 d2 secB) (hpb : BS W b3 m3 d3 parB) (hrb : BS W b4 m4 d4 rndB) (hK : KT W) :
    Calls Tryd.prog 5 #[.agg #[.bool sa, .slice a1 n1 c1, .slice a2 n2 c2, .slice a3 n3 c3, .slice a4 n4 c4], .agg #[.bool sb, .slice b1 m1 d1, .slice b2 m2 d2, .slice b3 m3 d3, .slice b4 m4 d4]] W fun e W' => e = .returned (.bool true) ∧ Below W.heap.size W W' := by
  have hst := TwoZ.start W sa (.slice a1 n1 c1) (.slice a2 n2 c2) (.slice a3 n3 c3) (.slice a4 n4 c4) sb (.slice b1 m1 d1) (.slice b2 m2 d2) (.slice b3 m3 d3) (.slice b4 m4 d4)
  obtain ⟨W1, hW1⟩ : ∃ x, (W.alloc (.cells #[.bool sa, .slice a1 n1 c1, .slice a2 n2 c2, .slice a3 n3 c3, .slice a4 n4 c4] 24)).alloc (.cells #[.bool sb, .slice b1 m1 d1, .slice b2 m2 d2, .slice b3 m3 d3, .slice b4 m4 d4] 24) = x := ⟨_, rfl⟩
  obtain ⟨k, hk⟩ : ∃ k, W.heap.size = k := ⟨_, rfl⟩
  rw [hW1, hk] at hst
  have hK1 : KT W1 := hK.below hst.bel (by omega)
  have Haw := Lib.hid (awake13_any W1 hK1)
  have HZ1 := Lib.hid hst
  have HKk := Lib.hid hk
  have HK := Lib.hid hK
  have bls : ∀ (w' : World), Below k W w' → ∀ (a : Option Addr) (n c : Nat) (xs : List UInt8), BS W a n c xs → BS w' a n c xs := fun w' hb a n c xs h => RS.below h hb (by omega)
  have BLS := Lib.hid bls
  have HA := Lib.hid (And.intro hia (And.intro hsa (And.intro hpa hra)))
  have HB := Lib.hid (And.intro hib (And.intro hsb (And.intro hpb hrb)))
  clear hst hK1 hK bls hia hsa hpa hra hib hsb hpb hrb
  go_enter Tryd.func5, Tryd.ntmps5
  go_upto_region 1 with (fail)
  clear hW1 hk
  go_upto_region 3 with (go_at_call 8; refine Haw.out.mono ?_; rintro x w2 ⟨rfl, hb2⟩)
  have HZ2 := Lib.hid (HZ1.out.next hb2)
  clear hb2 Haw HZ1
  have u0 := HZ2.out.a.c0
  have f0 := HZ2.out.a.fr 0
  have u1 := (HZ2.out.a0 false).b.c0
  have f1 := (HZ2.out.a0 false).b.fr 0
  go_upto_region 4 with (fail)
  clear u0 f0 u1 f1
  have hz := (HZ2.out.a0 false).b0 true
  obtain ⟨w3, hw3⟩ : ∃ x, (w2.setCell ⟨k, 0, none⟩ (.bool false)).setCell ⟨k + 1, 0, none⟩ (.bool true) = x := ⟨_, rfl⟩
  rw [hw3] at hz ⊢
  have HZ3 := Lib.hid hz
  clear hz hw3 HZ2
  have hsd := side_any w3 false (BLS.out w3 HZ3.out.bel _ _ _ _ HA.out.1) (BLS.out w3 HZ3.out.bel _ _ _ _ HA.out.2.1) (BLS.out w3 HZ3.out.bel _ _ _ _ HA.out.2.2.1) (BLS.out w3 HZ3.out.bel _ _ _ _ HA.out.2.2.2)
  have Hsd := Lib.hid hsd
  have Hra := Lib.hid HZ3.out.a.rng
  have hk3 := HZ3.out.lt
  clear hsd
  go_upto_region 5 with (first
    | (refine wpList_load_mid rfl _ _ rfl _ _ rfl _ _ Hra.out Tryd.underlying24 rfl iSide ?_)
    | (go_at_call 9; refine Hsd.out.mono ?_; rintro x w4 ⟨N4, i1, s1, p1, r1, i2, s2, p2, rfl, hq4⟩)
    | (refine L_storeRow rfl 28 _ _ rfl rfl rfl (heap_alloc_at w4 _ rfl) iConf rfl (cfc_len (pad32_len _)) (cfc_one _ i2 s2 p2 _) ?_; intro w5 hc5 hg5; have hz5 := ((HZ3.out.next (hq4.bel.mono (Nat.le_refl _))).grow (World.grownBy_alloc w4 (.cells #[.bool false, .slice none 0 0, .slice none 0 0, .slice none 0 0, .int .u8 0, .int .u8 0, .int .u8 0, .int .u8 0, .int .u8 0, .int .u8 0, .int .u8 0, .int .u8 0, .int .u8 0, .int .u8 0, .int .u8 0, .int .u8 0, .int .u8 0, .int .u8 0, .int .u8 0, .int .u8 0, .int .u8 0, .int .u8 0, .int .u8 0, .int .u8 0, .int .u8 0, .int .u8 0, .int .u8 0, .int .u8 0, .int .u8 0, .int .u8 0, .int .u8 0, .int .u8 0, .int .u8 0, .int .u8 0, .int .u8 0, .int .u8 0] 28) none) (fun j hj => by cases hj)).grow hg5 (fun j hj => by cases hj; have := hq4.bel.size; omega); have za5 := hz5.a)
    | (refine L_storeRow (old := [.bool false, .slice a1 n1 c1, .slice a2 n2 c2, .slice a3 n3 c3, .slice a4 n4 c4]) rfl 24 _ _ rfl rfl rfl za5 iSide rfl rfl (szcells false i1 s1 p1 r1) ?_; intro w6 hz6 hg6))
  have hk4 : k + 1 < w4.heap.size := by have := hq4.bel.size; omega
  have g45 : w4.grownBy w5 none := grown_newq (World.grownBy_alloc w4 (.cells #[.bool false, .slice none 0 0, .slice none 0 0, .slice none 0 0, .int .u8 0, .int .u8 0, .int .u8 0, .int .u8 0, .int .u8 0, .int .u8 0, .int .u8 0, .int .u8 0, .int .u8 0, .int .u8 0, .int .u8 0, .int .u8 0, .int .u8 0, .int .u8 0, .int .u8 0, .int .u8 0, .int .u8 0, .int .u8 0, .int .u8 0, .int .u8 0, .int .u8 0, .int .u8 0, .int .u8 0, .int .u8 0, .int .u8 0, .int .u8 0, .int .u8 0, .int .u8 0, .int .u8 0, .int .u8 0, .int .u8 0, .int .u8 0] 28) none) hg5 (Nat.le_refl _)
  have HZ6 := Lib.hid (hz5.seta hg6 hz6)
  have g46 : w4.grownBy w6 (some k) := grown_trans (grown_mono g45) hg6
  obtain ⟨qa, hqa⟩ : ∃ x, w4.heap.size = x := ⟨_, rfl⟩
  have hqk : k + 1 < qa := by omega
  have hc6 : CZ w6 qa false i2.v s2.v p2.v (pad32 rndA) := by
    have : CZ w5 qa false i2.v s2.v p2.v (pad32 rndA) := by rw [← hqa]; exact hc5
    exact this.keep (hg6.block _ this.lt (fun he => by injection he with he; omega))
  have nca := hq4.nc (k := k) (by omega)
  have HC6 := Lib.hid hc6
  have HSA := Lib.hid (hq4.c.grow g46 nca.1.1 nca.1.2.1 nca.1.2.2)
  have HRA := Lib.hid (hq4.r.grow g46 nca.2.1 nca.2.2.1 nca.2.2.2)
  have Hxa : Hid ((∀ ad, i2.a = some ad → k + 1 < ad.block) ∧ (∀ ad, s2.a = some ad → k + 1 < ad.block) ∧ (∀ ad, p2.a = some ad → k + 1 < ad.block) ∧ (∀ ad, i1.a = some ad → k + 1 < ad.block) ∧ (∀ ad, s1.a = some ad → k + 1 < ad.block) ∧ (∀ ad, p1.a = some ad → k + 1 < ad.block)) := Lib.hid
    ⟨fun ad ha => by have := (hq4.hi2.base_le ha).1; have := hq4.low; omega, fun ad ha => by have := (hq4.hs2.base_le ha).1; have := hq4.low; omega, fun ad ha => by have := (hq4.hp2.base_le ha).1; have := hq4.low; omega, fun ad ha => by have := (hq4.hi.base_le ha).1; omega, fun ad ha => by have := (hq4.hs.base_le ha).1; omega, fun ad ha => by have := (hq4.hp.base_le ha).1; omega⟩
  have HRQ := Lib.hid (show BS w6 r1.a r1.n r1.c (pad32 rndA) from RS.grown hq4.hr.rs g46 (fun ad ha he => by have := (hq4.hr.base_le ha).1; injection he with he; omega))
  have Hxr := Lib.hid (show ∀ ad, r1.a = some ad → k + 1 < ad.block from fun ad ha => by have := (hq4.hr.base_le ha).1; omega)
  rw [hqa]
  clear hg5 hc5 hz5 za5 hg6 hz6 g45 g46 hc6 nca hq4 hqa Hsd Hra HZ3 hk3 hk4
  have hsd := side_any w6 true (BLS.out w6 HZ6.out.bel _ _ _ _ HB.out.1) (BLS.out w6 HZ6.out.bel _ _ _ _ HB.out.2.1) (BLS.out w6 HZ6.out.bel _ _ _ _ HB.out.2.2.1) (BLS.out w6 HZ6.out.bel _ _ _ _ HB.out.2.2.2)
  have Hsd := Lib.hid hsd
  have Hrb := Lib.hid HZ6.out.b.rng
  have hk6 := HZ6.out.lt
  clear hsd
  go_upto_region 6 with (first
    | (refine wpList_load_mid rfl _ _ rfl _ _ rfl _ _ Hrb.out Tryd.underlying24 rfl iSide ?_)
    | (go_at_call 9; refine Hsd.out.mono ?_; rintro x w7 ⟨N7, j1, t1, q1, e1, j2, t2, q2, rfl, hq7⟩)
    | (refine L_storeRow rfl 28 _ _ rfl rfl rfl (heap_alloc_at w7 _ rfl) iConf rfl (cfc_len (pad32_len _)) (cfc_one _ j2 t2 q2 _) ?_; intro w8 hc8 hg8; have hz8 := ((HZ6.out.next (hq7.bel.mono (Nat.le_refl _))).grow (World.grownBy_alloc w7 (.cells #[.bool false, .slice none 0 0, .slice none 0 0, .slice none 0 0, .int .u8 0, .int .u8 0, .int .u8 0, .int .u8 0, .int .u8 0, .int .u8 0, .int .u8 0, .int .u8 0, .int .u8 0, .int .u8 0, .int .u8 0, .int .u8 0, .int .u8 0, .int .u8 0, .int .u8 0, .int .u8 0, .int .u8 0, .int .u8 0, .int .u8 0, .int .u8 0, .int .u8 0, .int .u8 0, .int .u8 0, .int .u8 0, .int .u8 0, .int .u8 0, .int .u8 0, .int .u8 0, .int .u8 0, .int .u8 0, .int .u8 0, .int .u8 0] 28) none) (fun j hj => by cases hj)).grow hg8 (fun j hj => by cases hj; have := hq7.bel.size; omega); have zb8 := hz8.b)
    | (refine L_storeRow (old := [.bool true, .slice b1 m1 d1, .slice b2 m2 d2, .slice b3 m3 d3, .slice b4 m4 d4]) rfl 24 _ _ rfl rfl rfl zb8 iSide rfl rfl (szcells true j1 t1 q1 e1) ?_; intro w9 hz9 hg9))
  have hk7 : k + 1 < w7.heap.size := by have := hq7.bel.size; omega
  have g78 : w7.grownBy w8 none := grown_newq (World.grownBy_alloc w7 (.cells #[.bool false, .slice none 0 0, .slice none 0 0, .slice none 0 0, .int .u8 0, .int .u8 0, .int .u8 0, .int .u8 0, .int .u8 0, .int .u8 0, .int .u8 0, .int .u8 0, .int .u8 0, .int .u8 0, .int .u8 0, .int .u8 0, .int .u8 0, .int .u8 0, .int .u8 0, .int .u8 0, .int .u8 0, .int .u8 0, .int .u8 0, .int .u8 0, .int .u8 0, .int .u8 0, .int .u8 0, .int .u8 0, .int .u8 0, .int .u8 0, .int .u8 0, .int .u8 0, .int .u8 0, .int .u8 0, .int .u8 0, .int .u8 0] 28) none) hg8 (Nat.le_refl _)
  have HZ9 := Lib.hid (hz8.setb hg9 hz9)
  have g79 : w7.grownBy w9 (some (k + 1)) := grown_trans (grown_mono g78) hg9
  obtain ⟨qb, hqb⟩ : ∃ x, w7.heap.size = x := ⟨_, rfl⟩
  have hqk2 : k + 1 < qb := by omega
  have hc9 : CZ w9 qb true j2.v t2.v q2.v (pad32 rndB) := by
    have : CZ w8 qb true j2.v t2.v q2.v (pad32 rndB) := by rw [← hqb]; exact hc8
    exact this.keep (hg9.block _ this.lt (fun he => by injection he with he; omega))
  have hca9 : CZ w9 qa false i2.v s2.v p2.v (pad32 rndA) := by
    have : CZ w7 qa false i2.v s2.v p2.v (pad32 rndA) := HC6.out.bel hq7.bel
    exact this.keep (g79.block _ this.lt (fun he => by injection he with he; omega))
  have ncb := hq7.nc (k := k + 1) (by omega)
  have HC9 := Lib.hid (And.intro hca9 hc9)
  have HSB := Lib.hid (hq7.c.grow g79 ncb.1.1 ncb.1.2.1 ncb.1.2.2)
  have HRB := Lib.hid (hq7.r.grow g79 ncb.2.1 ncb.2.2.1 ncb.2.2.2)
  have ne1 : ∀ {a : Option Addr}, (∀ ad, a = some ad → k + 1 < ad.block) → ∀ ad, a = some ad → some ad.block ≠ some (k + 1) := fun h ad ha he => by have := h ad ha; injection he with he; omega
  have HSA9 := Lib.hid ((HSA.out.bel hq7.bel).grow g79 (ne1 Hxa.out.1) (ne1 Hxa.out.2.1) (ne1 Hxa.out.2.2.1))
  have HRA9 := Lib.hid ((HRA.out.bel hq7.bel).grow g79 (ne1 Hxa.out.2.2.2.1) (ne1 Hxa.out.2.2.2.2.1) (ne1 Hxa.out.2.2.2.2.2))
  have HRQ9 := Lib.hid (show BS w9 r1.a r1.n r1.c (pad32 rndA) from RS.grown (RS.below HRQ.out hq7.bel (Nat.le_refl _)) g79 (fun ad ha he => by have := Hxr.out ad ha; injection he with he; omega))
  rw [hqb]
  clear hg8 hc8 hz8 zb8 hg9 hz9 g78 g79 hc9 hca9 ncb hq7 hqb Hsd Hrb HZ6 hk6 hk7 ne1 HSA HRA HC6
  -- both machines
  obtain ⟨X, hX⟩ : ∃ X, w9.drew = X := ⟨_, rfl⟩
  have bX : Below w9.heap.size w9 X := by rw [← hX]; exact (Below.refl _ w9).drew
  have hKX : KT X := (HK.out.below (HZ9.out.bel.trans (bX.mono (Nat.le_of_lt HZ9.out.a.lt))) (by rw [HKk.out]; exact Nat.le_refl _))
  have HZX := Lib.hid (HZ9.out.next bX)
  have HCX := Lib.hid (And.intro (HC9.out.1.bel bX) (HC9.out.2.bel bX))
  have HSAX := Lib.hid (HSA9.out.bel bX)
  have HSBX := Lib.hid (HSB.out.bel bX)
  have HRAX := Lib.hid (HRA9.out.bel bX)
  have HRBX := Lib.hid (HRB.out.bel bX)
  have HKX := Lib.hid hKX
  have lqa := HCX.out.1.lt
  have lqb := HCX.out.2.lt
  have hiA : (Tryd.prog.info? 28).map (·.size) = some (cfc false i2.v s2.v p2.v (pad32 rndA)).length := cfc_sz (pad32_len _)
  have hiB : (Tryd.prog.info? 28).map (·.size) = some (cfc true j2.v t2.v q2.v (pad32 rndB)).length := cfc_sz (pad32_len _)
  have huC := Tryd.underlying28
  have HRQX := Lib.hid (RS.below HRQ9.out bX (Nat.le_refl _))
  clear bX hKX HC9 HZ9 HSA9 HSB HRA9 HRB
  refine wp_region_held_drew (S := fun w' => w'.rangeAt qa 0 (cfc false i2.v s2.v p2.v (pad32 rndA)) ∧ w'.rangeAt qb 0 (cfc true j2.v t2.v q2.v (pad32 rndB))) (by kernel_rfl) (by rw [hX]; exact ⟨HCX.out.1.rng, HCX.out.2.rng⟩) (fun hHeld => ?_)
  rw [hX] at hHeld ⊢
  clear hX
  refine wpAnyH_take (i := 0) rfl (by kernel_rfl) (by kernel_rfl) (by kernel_rfl) (fun _ _ _ h => h) (yieldsIf_load_mid (by rfl) _ _ rfl _ _ rfl _ _ (fun w h => h.1) huC rfl hiA) hHeld ?_
  try simp only [Act.put, List.getElem_toArray, List.getElem_cons_zero, List.setIfInBounds_toArray, List.set_cons_zero, List.set_cons_succ]
  refine wpAnyH_take (i := 2) rfl (by kernel_rfl) (by kernel_rfl) (by kernel_rfl) (fun _ _ _ h => h) (yieldsIf_load_mid (by rfl) _ _ rfl _ _ rfl _ _ (fun w h => h.2) huC rfl hiB) hHeld ?_
  try simp only [Act.put, List.getElem_toArray, List.getElem_cons_succ, List.getElem_cons_zero, List.setIfInBounds_toArray, List.set_cons_zero, List.set_cons_succ]
  refine wpAnyH_ready (rs := [1]) (by kernel_rfl) (by simp) (AllReadyH.cons rfl (fun K hK => ?_) AllReadyH.nil)
  go_simp
  go_at_call 10
  have len1 := BS.len HSAX.out.bi
  have len2 := BS.len HSAX.out.bs
  have len3 := BS.len HSAX.out.bp
  rw [List.length_take] at len1 len2 len3
  refine (gnew_any X false HSAX.out.bi HSAX.out.bs HSAX.out.bp (pad32_len rndA) (by omega) (by omega) (by omega) HKX.out).mono ?_
  rintro x y1 ⟨ga, ra, Aa, rfl, hma, hby, hza⟩
  clear len1 len2 len3
  rw [List.take_take, List.take_take] at hma
  have HMA := Lib.hid hma
  have HBY := Lib.hid hby
  have Hza := Lib.hid hza
  clear hma hby hza
  refine hK.out _ _ ⟨rng_bel HCX.out.1.rng HBY.out lqa, rng_bel HCX.out.2.rng HBY.out lqb⟩ (fun hHeld => ?_)
  clear hK K
  try simp only [Act.put, List.getElem_toArray, List.getElem_cons_succ, List.getElem_cons_zero, List.setIfInBounds_toArray, List.set_cons_zero, List.set_cons_succ]
  refine wpAnyH_ready (rs := [3]) (by kernel_rfl) (by simp) (AllReadyH.cons rfl (fun K hK => ?_) AllReadyH.nil)
  go_simp
  go_at_call 10
  have len1 := BS.len HSBX.out.bi
  have len2 := BS.len HSBX.out.bs
  have len3 := BS.len HSBX.out.bp
  rw [List.length_take] at len1 len2 len3
  have hky : KT y1 := HKX.out.below HBY.out (Nat.le_refl _)
  refine (gnew_any y1 true (HSBX.out.bel HBY.out).bi (HSBX.out.bel HBY.out).bs (HSBX.out.bel HBY.out).bp (pad32_len rndB) (by omega) (by omega) (by omega) hky).mono ?_
  rintro x y2 ⟨gb, rb, Ab, rfl, hmb, hby2, hzb⟩
  clear len1 len2 len3
  rw [List.take_take, List.take_take] at hmb
  have hXY : Below X.heap.size X y2 := btr HBY.out hby2
  have hT : TM y2 ra rb ga gb (newM false (pad32 rndA) (idA.take 64) (secA.take 80) (parA.take 512)) (newM true (pad32 rndB) (idB.take 64) (secB.take 80) (parB.take 512)) Aa Ab := by
    refine ⟨HMA.out.below hby2, hmb, fun j => ?_, Hza.out _ HKX.out.lt, hzb _ hky.lt, hky.below hby2 (Nat.le_refl _)⟩
    by_cases hj : j < y1.heap.size
    · exact .inr (hzb j hj)
    · exact .inl (HMA.out.gp.top j (by omega))
  have zra : ∀ j, j < X.heap.size → ra j = 0 := Hza.out
  have zrb : ∀ j, j < X.heap.size → rb j = 0 := fun j hj => hzb j (by have := HBY.out.size; omega)
  have HT := Lib.hid hT
  have Hzz := Lib.hid (And.intro zra zrb)
  have HXY := Lib.hid hXY
  refine hK.out _ _ ⟨rng_bel HCX.out.1.rng hXY lqa, rng_bel HCX.out.2.rng hXY lqb⟩ (fun hHeld => ?_)
  clear hK K hmb hby2 hzb hky hXY hT zra zrb HMA HBY Hza
  try simp only [Act.put, List.getElem_toArray, List.getElem_cons_succ, List.getElem_cons_zero, List.setIfInBounds_toArray, List.set_cons_zero, List.set_cons_succ]
  obtain ⟨idl, hidl⟩ : ∃ x, idA.take 64 = x := ⟨_, rfl⟩
  obtain ⟨sel, hsel⟩ : ∃ x, secA.take 80 = x := ⟨_, rfl⟩
  obtain ⟨pA, hpA⟩ : ∃ x, parA.take 512 = x := ⟨_, rfl⟩
  obtain ⟨idm, hidm⟩ : ∃ x, idB.take 64 = x := ⟨_, rfl⟩
  obtain ⟨sem, hsem⟩ : ∃ x, secB.take 80 = x := ⟨_, rfl⟩
  obtain ⟨pB, hpB⟩ : ∃ x, parB.take 512 = x := ⟨_, rfl⟩
  have lid : idl.length ≤ 64 := by rw [← hidl, List.length_take]; omega
  have lidm : idm.length ≤ 64 := by rw [← hidm, List.length_take]; omega
  have lse : sel.length ≤ 80 := by rw [← hsel, List.length_take]; omega
  have lsem : sem.length ≤ 80 := by rw [← hsem, List.length_take]; omega
  have lpA : pA.length ≤ 512 := by rw [← hpA, List.length_take]; omega
  have lpB : pB.length ≤ 512 := by rw [← hpB, List.length_take]; omega
  have hT : TM y2 ra rb ga gb (newM false (pad32 rndA) idl sel pA) (newM true (pad32 rndB) idm sem pB) Aa Ab := by rw [← hidl, ← hsel, ← hpA, ← hidm, ← hsem, ← hpB]; exact HT.out
  have hqa := HRAX.out
  have hqb := HRBX.out
  have fi : idl = (idA.take 80).take 64 := by rw [← hidl, List.take_take]; rfl
  have fj : idm = (idB.take 80).take 64 := by rw [← hidm, List.take_take]; rfl
  have fp : pA = (parA.take 600).take 512 := by rw [← hpA, List.take_take]; rfl
  have bia : BS X i1.a i1.n i1.c (idA.take 80) := hqa.bi
  have bsa : BS X s1.a s1.n s1.c sel := by rw [← hsel]; exact hqa.bs
  have bpa : BS X p1.a p1.n p1.c (parA.take 600) := hqa.bp
  have bib : BS X j1.a j1.n j1.c (idB.take 80) := hqb.bi
  have bsb : BS X t1.a t1.n t1.c sem := by rw [← hsem]; exact hqb.bs
  obtain ⟨xi, hxi⟩ : ∃ x, idA.take 80 = x := ⟨_, rfl⟩
  obtain ⟨xj, hxj⟩ : ∃ x, idB.take 80 = x := ⟨_, rfl⟩
  obtain ⟨xp, hxp⟩ : ∃ x, parA.take 600 = x := ⟨_, rfl⟩
  have lxi : xi.length ≤ 80 := by rw [← hxi, List.length_take]; omega
  have lxj : xj.length ≤ 80 := by rw [← hxj, List.length_take]; omega
  have lxp : xp.length ≤ 600 := by rw [← hxp, List.length_take]; omega
  rw [hxi] at bia fi
  rw [hxj] at bib fj
  rw [hxp] at bpa fp
  have br := HRQX.out
  obtain ⟨rA, hrA⟩ : ∃ x, pad32 rndA = x := ⟨_, rfl⟩
  obtain ⟨rB, hrB⟩ : ∃ x, pad32 rndB = x := ⟨_, rfl⟩
  have lrA : rA.length = 32 := by rw [← hrA]; exact pad32_len _
  have lrB : rB.length = 32 := by rw [← hrB]; exact pad32_len _
  rw [hrA, hrB] at hT
  rw [hrA] at br
  have HF := Lib.hid ((((((Fs.nil X).cons br).cons bsb).cons bib).cons bpa).cons bsa |>.cons bia)
  have HL := Lib.hid (And.intro fi (And.intro fj fp))
  have n1 := Lib.hid (show i1.n ≤ 1000 ∧ s1.n ≤ 1000 ∧ p1.n ≤ 1000 ∧ t1.n ≤ 1000 by have h1 := BS.len bia; have h2 := BS.len bsa; have h3 := BS.len bpa; have h4 := BS.len bsb; omega)
  obtain ⟨R, hR⟩ : ∃ R, (meetM 5000 6 (newM false rA idl sel pA) (newM true rB idm sem pB)).2.2 = R := ⟨_, rfl⟩
  have HR := Lib.hid (show (idl ≠ idm → R = 371) ∧ (idl = idm → hH rA idl sel pA ≠ hH rA idl sem pA → R = 307) ∧ (idl = idm → sel = sem → R = 0) from ⟨fun h => by rw [← hR]; exact code_name 5000 (by omega) lrA lid lpA _ _ h, fun h1 h2 => by rw [← hR, ← h1]; exact code_secret 5000 (by omega) lrA lid lpA _ h2, fun h1 h2 => by rw [← hR, ← h1, ← h2]; exact code_same 5000 (by omega) lrA lrB lid lpA lpB⟩)
  have hmt := meet_any y2 hT 5000 (by omega) (by omega) (new_bn false lrA lid lpA (by omega)) (new_bn true lrB lidm lpB (by omega))
  rw [hR] at hmt
  have hmt2 : Calls Tryd.prog 14 #[.pointer (some ⟨ga, 0, none⟩), .pointer (some ⟨gb, 0, none⟩), .int .i64 5000] y2 fun e w' => e = .returned (.int .u64 (R : Int)) ∧ ∃ ra' rb', Kp2 y2 w' ra rb ra' rb' := hmt.mono fun e w' h => ⟨h.1, h.2.choose, h.2.choose_spec.choose, h.2.choose_spec.choose_spec.1⟩
  have Hmt := Lib.hid hmt2
  have HLr := Lib.hid (And.intro lrA lrB)
  clear hidl hsel hpA hidm hsem hpB hT hqa hqb fi fj fp bia bsa bpa bib bsb hxi hxj hxp br hrA hrB lrA lrB hR hmt hmt2 lid lidm lse lsem lpA lpB lxi lxj lxp HT HRAX HRBX HRQX
  refine wpAnyH_ready (rs := [4]) (by kernel_rfl) (by simp) (AllReadyH.cons rfl (fun K hK => ?_) AllReadyH.nil)
  go_simp
  go_at_call 14
  refine Hmt.out.mono ?_
  rintro x y3 ⟨rfl, ra3, rb3, kp3⟩
  have bX := kp3.below HXY.out HXY.out.size Hzz.out.1 Hzz.out.2
  refine hK.out _ _ ⟨rng_bel HCX.out.1.rng bX lqa, rng_bel HCX.out.2.rng bX lqb⟩ (fun hHeld => ?_)
  have HBX := Lib.hid bX
  clear hK K kp3 bX Hmt
  try simp only [Act.put, List.getElem_toArray, List.getElem_cons_succ, List.getElem_cons_zero, List.setIfInBounds_toArray, List.set_cons_zero, List.set_cons_succ]
  refine wpAnyH_take (i := 5) (v := .int .u64 (R : Int)) rfl (by kernel_rfl) (by kernel_rfl) (by kernel_rfl) (fun _ _ _ h => h) (Or.inl ⟨by rfl, fun w h => by go_simp⟩) hHeld ?_
  try simp only [Act.put, List.getElem_toArray, List.getElem_cons_succ, List.getElem_cons_zero, List.setIfInBounds_toArray, List.set_cons_zero, List.set_cons_succ]
  refine wpAnyH_done (by kernel_rfl) ?_ _
  try simp only [Act.put, List.getElem_toArray, List.getElem_cons_succ, List.getElem_cons_zero]
  clear hHeld huC hiA hiB HCX HSAX HSBX lqa lqb
  have HF3 := Lib.hid (HF.out.bel HBX.out)
  have HZ3 := Lib.hid (HZX.out.next HBX.out)
  clear HF HXY Hzz HBX HZX
  go_upto_region 7 with (fail)
  obtain ⟨V, hV⟩ : ∃ V, y3.drew = V := ⟨_, rfl⟩
  have bV : Below y3.heap.size y3 V := by rw [← hV]; exact (Below.refl _ y3).drew
  have HFV := Lib.hid (HF3.out.bel bV)
  have HZV := Lib.hid (HZ3.out.next bV)
  clear bV HF3 HZ3
  refine wp_region_held_drew (S := fun w' => w'.cell? ⟨k, 1, none⟩ = some (.slice i1.a i1.n i1.c) ∧ w'.cell? ⟨k + 1, 1, none⟩ = some (.slice j1.a j1.n j1.c)) (by kernel_rfl) (by rw [hV]; exact ⟨HZV.out.a.c1, HZV.out.b.c1⟩) (fun hHeld => ?_)
  rw [hV] at hHeld ⊢
  clear hV
  refine wpAnyH_take (i := 0) (v := .pointer (some ⟨k, 1, none⟩)) rfl (by kernel_rfl) (by kernel_rfl) (by kernel_rfl) (fun _ _ _ h => h) (Or.inl ⟨by rfl, fun w h => by go_simp⟩) hHeld ?_
  try simp only [Act.put, List.getElem_toArray, List.getElem_cons_zero, List.setIfInBounds_toArray, List.set_cons_zero, List.set_cons_succ]
  refine wpAnyH_take (i := 1) (v := .slice i1.a i1.n i1.c) rfl (by kernel_rfl) (by kernel_rfl) (by kernel_rfl) (fun _ _ _ h => h) (Or.inl ⟨by rfl, fun w h => by have h2 := h.1; go_simp⟩) hHeld ?_
  try simp only [Act.put, List.getElem_toArray, List.getElem_cons_succ, List.getElem_cons_zero, List.setIfInBounds_toArray, List.set_cons_zero, List.set_cons_succ]
  refine wpAnyH_take (i := 3) (v := .pointer (some ⟨k + 1, 1, none⟩)) rfl (by kernel_rfl) (by kernel_rfl) (by kernel_rfl) (fun _ _ _ h => h) (Or.inl ⟨by rfl, fun w h => by go_simp⟩) hHeld ?_
  try simp only [Act.put, List.getElem_toArray, List.getElem_cons_succ, List.getElem_cons_zero, List.setIfInBounds_toArray, List.set_cons_zero, List.set_cons_succ]
  refine wpAnyH_take (i := 4) (v := .slice j1.a j1.n j1.c) rfl (by kernel_rfl) (by kernel_rfl) (by kernel_rfl) (fun _ _ _ h => h) (Or.inl ⟨by rfl, fun w h => by have h2 := h.2; go_simp⟩) hHeld ?_
  try simp only [Act.put, List.getElem_toArray, List.getElem_cons_succ, List.getElem_cons_zero, List.setIfInBounds_toArray, List.set_cons_zero, List.set_cons_succ]
  refine wpAnyH_ready (rs := [2]) (by kernel_rfl) (by simp) (AllReadyH.cons rfl (fun K hK => ?_) AllReadyH.nil)
  go_simp
  go_at_call 18
  have hc := cutx_any V (HFV.out.at_ 0 rfl) 64 (by omega)
  rw [← HL.out.1] at hc
  refine hc.mono ?_
  rintro x y4 ⟨f1, g1, rfl, o1, B4⟩
  have z4 := HZV.out.next B4
  refine hK.out _ _ ⟨z4.a.c1, z4.b.c1⟩ (fun hHeld => ?_)
  clear hK K hc
  have HZ4 := Lib.hid z4
  have HF4 := Lib.hid ((HFV.out.bel B4).cons o1.rs)
  clear z4 o1 B4 HFV HZV
  try simp only [Act.put, List.getElem_toArray, List.getElem_cons_succ, List.getElem_cons_zero, List.setIfInBounds_toArray, List.set_cons_zero, List.set_cons_succ]
  refine wpAnyH_ready (rs := [5]) (by kernel_rfl) (by simp) (AllReadyH.cons rfl (fun K hK => ?_) AllReadyH.nil)
  go_simp
  go_at_call 18
  have hc := cutx_any y4 (HF4.out.at_ 4 rfl) 64 (by omega)
  rw [← HL.out.2.1] at hc
  refine hc.mono ?_
  rintro x y5 ⟨f2, g2, rfl, o2, B5⟩
  have z5 := HZ4.out.next B5
  refine hK.out _ _ ⟨z5.a.c1, z5.b.c1⟩ (fun hHeld => ?_)
  clear hK K hc
  have HZ5 := Lib.hid z5
  have HF5 := Lib.hid ((HF4.out.bel B5).cons o2.rs)
  clear z5 o2 B5 HF4 HZ4
  try simp only [Act.put, List.getElem_toArray, List.getElem_cons_succ, List.getElem_cons_zero, List.setIfInBounds_toArray, List.set_cons_zero, List.set_cons_succ]
  refine wpAnyH_ready (rs := [6]) (by kernel_rfl) (by simp) (AllReadyH.cons rfl (fun K hK => ?_) AllReadyH.nil)
  go_simp
  go_at_call 17
  refine (same_any y5 (HF5.out.at_ 1 rfl) (HF5.out.at_ 0 rfl)).mono ?_
  rintro x y6 ⟨rfl, rfl⟩
  refine hK.out _ _ ⟨HZ5.out.a.c1, HZ5.out.b.c1⟩ (fun hHeld => ?_)
  clear hK K
  try simp only [Act.put, List.getElem_toArray, List.getElem_cons_succ, List.getElem_cons_zero, List.setIfInBounds_toArray, List.set_cons_zero, List.set_cons_succ]
  obtain ⟨bs, hbs⟩ : ∃ b, (idl == idm) = b := ⟨_, rfl⟩
  rw [hbs]
  have Hbs := Lib.hid hbs
  clear hbs
  refine wpAnyH_take (i := 7) (v := .bool (!bs)) rfl (by kernel_rfl) (by kernel_rfl) (by kernel_rfl) (fun _ _ _ h => h) (Or.inl ⟨by rfl, fun w h => by go_simp⟩) hHeld ?_
  try simp only [Act.put, List.getElem_toArray, List.getElem_cons_succ, List.getElem_cons_zero, List.setIfInBounds_toArray, List.set_cons_zero, List.set_cons_succ]
  refine wpAnyH_done (by kernel_rfl) ?_ _
  try simp only [Act.put, List.getElem_toArray, List.getElem_cons_succ, List.getElem_cons_zero]
  clear hHeld
  cases bs with
  | false =>
    have hne : idl ≠ idm := by intro h; have := Hbs.out; rw [h] at this; simp at this
    obtain rfl := HR.out.1 hne
    clear HR
    go_wp2
    go_ret
    refine ⟨rfl, ?_⟩
    rw [HKk.out]
    exact HZ5.out.bel
  | true =>
    have heq : idl = idm := by have := Hbs.out; simpa using this
    have HR2 := Lib.hid (HR.out.2 |> fun h => And.intro (h.1 heq) (h.2 heq))
    clear heq HR Hbs
    have Hra := Lib.hid HZ5.out.a.rng
    go_upto_region 10 with (first
      | (refine wpList_load_mid rfl _ _ rfl _ _ rfl _ _ Hra.out Tryd.underlying24 rfl iSide ?_)
      | (refine L_storeRow rfl 24 _ _ rfl rfl rfl (heap_alloc_at y5 _ rfl) iSide rfl rfl (szcells false i1 s1 p1 r1) ?_; intro y7 hz7 hg7))
    have B7 : Below y5.heap.size y5 y7 := (below_alloc y5 _).grown hg7 (by simp) (fun j hj => by cases hj; exact Nat.le_refl _)
    have u2 : y7.cell? ⟨k + 1, 2, none⟩ = some (.slice t1.a t1.n t1.c) := (HZ5.out.next B7).b.c2
    have hs7 : SZ y7 y5.heap.size false i1.v s1.v p1.v r1.v := hz7
    have u3 : y7.cell? ⟨y5.heap.size, 2, none⟩ = some (.slice s1.a s1.n s1.c) := hs7.c2
    have f3 := hs7.fr 2
    have lkb : k + 1 < y5.heap.size := HZ5.out.lt
    have B8 := B7.grown (grownBy_setCell y7 ⟨y5.heap.size, 2, none⟩ (.slice t1.a t1.n t1.c)) B7.size (fun j hj => by cases hj; exact Nat.le_refl _)
    have hs8 : SZ (y7.setCell ⟨y5.heap.size, 2, none⟩ (.slice t1.a t1.n t1.c)) y5.heap.size false i1.v (.slice t1.a t1.n t1.c) p1.v r1.v := hs7.s2 _
    have HB8 := Lib.hid B8
    have HS8 := Lib.hid hs8
    clear hs7 hz7 hg7 B7 Hra B8 hs8
    go_upto_region 11 with (fail)
    clear u2 u3 f3
    obtain ⟨Y, hY⟩ : ∃ x, y7.setCell ⟨y5.heap.size, 2, none⟩ (.slice t1.a t1.n t1.c) = x := ⟨_, rfl⟩
    obtain ⟨kb, hkb⟩ : ∃ x, y5.heap.size = x := ⟨_, rfl⟩
    have hs8 := HS8.out
    have hz8 := HZ5.out.next HB8.out
    have hf8 := HF5.out.bel HB8.out
    rw [hY] at hs8 hz8 hf8 ⊢
    rw [hkb] at hs8 lkb ⊢
    clear hY hkb HB8 HS8 HZ5 HF5
    obtain ⟨V, hV⟩ : ∃ V, Y.drew = V := ⟨_, rfl⟩
    have bV : Below Y.heap.size Y V := by rw [← hV]; exact (Below.refl _ Y).drew
    have HSV := Lib.hid (hs8.bel bV)
    have HZV := Lib.hid (hz8.next bV)
    have HFV := Lib.hid (hf8.bel bV)
    clear bV hs8 hz8 hf8
    have hr1 : V.rangeAt k 0 [.bool false, .slice i1.a i1.n i1.c, .slice s1.a s1.n s1.c, .slice p1.a p1.n p1.c, .slice r1.a r1.n r1.c] := HZV.out.a.rng
    have hr2 : V.rangeAt kb 0 [.bool false, .slice i1.a i1.n i1.c, .slice t1.a t1.n t1.c, .slice p1.a p1.n p1.c, .slice r1.a r1.n r1.c] := HSV.out.rng
    have huS := Tryd.underlying24
    have iA : (Tryd.prog.info? 24).map (·.size) = some ([.bool false, .slice i1.a i1.n i1.c, .slice s1.a s1.n s1.c, .slice p1.a p1.n p1.c, .slice r1.a r1.n r1.c] : List Value).length := iSide
    have iB : (Tryd.prog.info? 24).map (·.size) = some ([.bool false, .slice i1.a i1.n i1.c, .slice t1.a t1.n t1.c, .slice p1.a p1.n p1.c, .slice r1.a r1.n r1.c] : List Value).length := iSide
    have hp1 : ∀ w' : World, BS w' i1.a i1.n i1.c xi → BS w' s1.a s1.n s1.c sel → BS w' p1.a p1.n p1.c xp → BS w' r1.a r1.n r1.c rA → Calls Tryd.prog 19 #[.agg #[.bool false, .slice i1.a i1.n i1.c, .slice s1.a s1.n s1.c, .slice p1.a p1.n p1.c, .slice r1.a r1.n r1.c], .slice none 0 0] w' fun e w'' => ∃ a c, e = .returned (.agg #[.slice a (hH rA idl sel pA).length c, .slice none 0 0, .slice none 0 0, .slice none 0 0, .slice none 0 0, .slice none 0 0, .slice none 0 0, .slice none 0 0, .slice none 0 0, .bool false, .bool false, .int .u64 0]) ∧ BS w'' a (hH rA idl sel pA).length c (hH rA idl sel pA) ∧ Below w'.heap.size w' w'' := fun w' q1 q2 q3 q4 => by
      have h := rplay_nil w' q1 q2 q3 q4 n1.out.1 n1.out.2.1 n1.out.2.2.1 HLr.out.1
      rw [← HL.out.1, ← HL.out.2.2] at h; exact h
    have hp2 : ∀ w' : World, BS w' i1.a i1.n i1.c xi → BS w' t1.a t1.n t1.c sem → BS w' p1.a p1.n p1.c xp → BS w' r1.a r1.n r1.c rA → Calls Tryd.prog 19 #[.agg #[.bool false, .slice i1.a i1.n i1.c, .slice t1.a t1.n t1.c, .slice p1.a p1.n p1.c, .slice r1.a r1.n r1.c], .slice none 0 0] w' fun e w'' => ∃ a c, e = .returned (.agg #[.slice a (hH rA idl sem pA).length c, .slice none 0 0, .slice none 0 0, .slice none 0 0, .slice none 0 0, .slice none 0 0, .slice none 0 0, .slice none 0 0, .slice none 0 0, .bool false, .bool false, .int .u64 0]) ∧ BS w'' a (hH rA idl sem pA).length c (hH rA idl sem pA) ∧ Below w'.heap.size w' w'' := fun w' q1 q2 q3 q4 => by
      have h := rplay_nil w' q1 q2 q3 q4 n1.out.1 n1.out.2.2.2 n1.out.2.2.1 HLr.out.1
      rw [← HL.out.1, ← HL.out.2.2] at h; exact h
    obtain ⟨H1, hH1⟩ : ∃ x, hH rA idl sel pA = x := ⟨_, rfl⟩
    obtain ⟨H2, hH2⟩ : ∃ x, hH rA idl sem pA = x := ⟨_, rfl⟩
    rw [hH1] at hp1
    rw [hH2] at hp2
    have hr9 := HR2.out
    rw [hH1, hH2] at hr9
    obtain ⟨l1, hl1⟩ : ∃ x, H1.length = x := ⟨_, rfl⟩
    obtain ⟨l2, hl2⟩ : ∃ x, H2.length = x := ⟨_, rfl⟩
    rw [hl1] at hp1
    rw [hl2] at hp2
    have Hp1 := Lib.hid hp1
    have Hp2 := Lib.hid hp2
    have HR3 := Lib.hid hr9
    clear hp1 hp2 hr9 hH1 hH2 hl1 hl2 HR2
    have lk := HZV.out.a.lt
    have lb := HSV.out.lt
    refine wp_region_held_drew (S := fun w' => w'.rangeAt k 0 [.bool false, .slice i1.a i1.n i1.c, .slice s1.a s1.n s1.c, .slice p1.a p1.n p1.c, .slice r1.a r1.n r1.c] ∧ w'.rangeAt kb 0 [.bool false, .slice i1.a i1.n i1.c, .slice t1.a t1.n t1.c, .slice p1.a p1.n p1.c, .slice r1.a r1.n r1.c]) (by kernel_rfl) (by rw [hV]; exact ⟨hr1, hr2⟩) (fun hHeld => ?_)
    rw [hV] at hHeld ⊢
    clear hV
    refine wpAnyH_take (i := 0) rfl (by kernel_rfl) (by kernel_rfl) (by kernel_rfl) (fun _ _ _ h => h) (yieldsIf_load_mid (by rfl) _ _ rfl _ _ rfl _ _ (fun w h => h.1) huS rfl iA) hHeld ?_
    try simp only [Act.put, List.getElem_toArray, List.getElem_cons_zero, List.setIfInBounds_toArray, List.set_cons_zero, List.set_cons_succ]
    refine wpAnyH_take (i := 4) rfl (by kernel_rfl) (by kernel_rfl) (by kernel_rfl) (fun _ _ _ h => h) (yieldsIf_load_mid (by rfl) _ _ rfl _ _ rfl _ _ (fun w h => h.2) huS rfl iB) hHeld ?_
    try simp only [Act.put, List.getElem_toArray, List.getElem_cons_succ, List.getElem_cons_zero, List.setIfInBounds_toArray, List.set_cons_zero, List.set_cons_succ]
    refine wpAnyH_ready (rs := [1]) (by kernel_rfl) (by simp) (AllReadyH.cons rfl (fun K hK => ?_) AllReadyH.nil)
    go_simp
    go_at_call 19
    refine (Hp1.out V (HFV.out.at_ 2 rfl) (HFV.out.at_ 3 rfl) (HFV.out.at_ 4 rfl) (HFV.out.at_ 7 rfl)).mono ?_
    rintro x y8 ⟨a8, c8, rfl, o8, B8⟩
    refine hK.out _ _ ⟨rng_bel hr1 B8 lk, rng_bel hr2 B8 lb⟩ (fun hHeld => ?_)
    clear hK K
    have HZ8 := Lib.hid (HZV.out.next B8)
    have HF8 := Lib.hid ((HFV.out.bel B8).cons o8)
    have HB8 := Lib.hid B8
    clear o8 B8 HFV HZV
    try simp only [Act.put, List.getElem_toArray, List.getElem_cons_succ, List.getElem_cons_zero, List.setIfInBounds_toArray, List.set_cons_zero, List.set_cons_succ]
    refine wpAnyH_take (i := 2) (v := .agg #[.slice a8 l1 c8, .slice none 0 0]) rfl (by kernel_rfl) (by kernel_rfl) (by kernel_rfl) (fun _ _ _ h => h) (Or.inl ⟨by rfl, fun w h => by have h2 := field_0 w (.slice a8 l1 c8) (.slice none 0 0) (.slice none 0 0) (.slice none 0 0) (.slice none 0 0) (.slice none 0 0) (.slice none 0 0) (.slice none 0 0) (.slice none 0 0) (.bool false) (.bool false) (.int .u64 0); go_simp⟩) hHeld ?_
    try simp only [Act.put, List.getElem_toArray, List.getElem_cons_succ, List.getElem_cons_zero, List.setIfInBounds_toArray, List.set_cons_zero, List.set_cons_succ]
    refine wpAnyH_take (i := 3) (v := .slice a8 l1 c8) rfl (by kernel_rfl) (by kernel_rfl) (by kernel_rfl) (fun _ _ _ h => h) (Or.inl ⟨by rfl, fun w h => by have h2 := index_0 w a8 none l1 c8 0 0; go_simp⟩) hHeld ?_
    try simp only [Act.put, List.getElem_toArray, List.getElem_cons_succ, List.getElem_cons_zero, List.setIfInBounds_toArray, List.set_cons_zero, List.set_cons_succ]
    refine wpAnyH_ready (rs := [5]) (by kernel_rfl) (by simp) (AllReadyH.cons rfl (fun K hK => ?_) AllReadyH.nil)
    go_simp
    go_at_call 19
    refine (Hp2.out y8 (HF8.out.at_ 3 rfl) (HF8.out.at_ 7 rfl) (HF8.out.at_ 5 rfl) (HF8.out.at_ 8 rfl)).mono ?_
    rintro x y9 ⟨a9, c9, rfl, o9, B9⟩
    refine hK.out _ _ ⟨rng_bel hr1 (btr HB8.out B9) lk, rng_bel hr2 (btr HB8.out B9) lb⟩ (fun hHeld => ?_)
    clear hK K
    have HZ9 := Lib.hid (HZ8.out.next B9)
    have HF9 := Lib.hid ((HF8.out.bel B9).cons o9)
    clear o9 B9 HF8 HZ8 hr1 hr2
    try simp only [Act.put, List.getElem_toArray, List.getElem_cons_succ, List.getElem_cons_zero, List.setIfInBounds_toArray, List.set_cons_zero, List.set_cons_succ]
    refine wpAnyH_take (i := 6) (v := .agg #[.slice a9 l2 c9, .slice none 0 0]) rfl (by kernel_rfl) (by kernel_rfl) (by kernel_rfl) (fun _ _ _ h => h) (Or.inl ⟨by rfl, fun w h => by have h2 := field_0 w (.slice a9 l2 c9) (.slice none 0 0) (.slice none 0 0) (.slice none 0 0) (.slice none 0 0) (.slice none 0 0) (.slice none 0 0) (.slice none 0 0) (.slice none 0 0) (.bool false) (.bool false) (.int .u64 0); go_simp⟩) hHeld ?_
    try simp only [Act.put, List.getElem_toArray, List.getElem_cons_succ, List.getElem_cons_zero, List.setIfInBounds_toArray, List.set_cons_zero, List.set_cons_succ]
    refine wpAnyH_take (i := 7) (v := .slice a9 l2 c9) rfl (by kernel_rfl) (by kernel_rfl) (by kernel_rfl) (fun _ _ _ h => h) (Or.inl ⟨by rfl, fun w h => by have h2 := index_0 w a9 none l2 c9 0 0; go_simp⟩) hHeld ?_
    try simp only [Act.put, List.getElem_toArray, List.getElem_cons_succ, List.getElem_cons_zero, List.setIfInBounds_toArray, List.set_cons_zero, List.set_cons_succ]
    refine wpAnyH_ready (rs := [8]) (by kernel_rfl) (by simp) (AllReadyH.cons rfl (fun K hK => ?_) AllReadyH.nil)
    go_simp
    go_at_call 17
    refine (same_any y9 (HF9.out.at_ 1 rfl) (HF9.out.at_ 0 rfl)).mono ?_
    rintro x y10 ⟨rfl, rfl⟩
    refine hK.out _ _ hHeld (fun hHeld => ?_)
    clear hK K
    try simp only [Act.put, List.getElem_toArray, List.getElem_cons_succ, List.getElem_cons_zero, List.setIfInBounds_toArray, List.set_cons_zero, List.set_cons_succ]
    refine wpAnyH_done (by kernel_rfl) ?_ _
    try simp only [Act.put, List.getElem_toArray, List.getElem_cons_succ, List.getElem_cons_zero]
    clear hHeld huS iA iB HSV HB8 lk lb lkb Hp1 Hp2
    obtain ⟨bs, hbs⟩ : ∃ b, (H1 == H2) = b := ⟨_, rfl⟩
    rw [hbs]
    have Hbs := Lib.hid hbs
    clear hbs
    cases bs with
    | false =>
      have hne : H1 ≠ H2 := by intro h; have := Hbs.out; rw [h] at this; simp at this
      obtain rfl := HR3.out.1 hne
      clear HR3
      go_wp2
      go_ret
      refine ⟨rfl, ?_⟩
      rw [HKk.out]
      exact HZ9.out.bel
    | true =>
      have v1 : y9.cell? ⟨k, 2, none⟩ = some (.slice s1.a s1.n s1.c) := HZ9.out.a.c2
      have v2 : y9.cell? ⟨k + 1, 2, none⟩ = some (.slice t1.a t1.n t1.c) := HZ9.out.b.c2
      by_cases hR0 : R = 0
      · subst hR0
        clear HR3
        go_wp2
        go_ret
        refine ⟨rfl, ?_⟩
        rw [HKk.out]
        exact HZ9.out.bel
      · have hRi : ¬ ((R : Int) = 0) := by omega
        have hsm := same_any y9 (HF9.out.at_ 5 rfl) (HF9.out.at_ 8 rfl)
        have hsn : (sel == sem) = false := by
          cases h : (sel == sem)
          · rfl
          · exact absurd (HR3.out.2 (by simpa using h)) hR0
        rw [hsn] at hsm
        have Hsm := Lib.hid hsm
        clear hsm hsn HR3
        go_wp2_with (go_at_call 17; (with_reducible refine Hsm.out.mono ?_); rintro x y11 ⟨rfl, rfl⟩)
        go_ret
        refine ⟨rfl, ?_⟩
        rw [HKk.out]
        exact HZ9.out.bel
end Go.Proofs.YtkhcpnmbhbhcgaaDoor
