/- texts CI DK DL in one. -/
import Derived.Test.YtlncnjcbgfeaoaaDoorYaj
import Derived.Test.YtlncnjcbgfeaoaaDoorYat
import Derived.Test.YtlncnjcbgfeaoaaDoorYaz
import Derived.Test.YtlncnjcbgfeaoaaDoorYba
import Derived.Test.YtlncnjcbgfeaoaaDoorYap
import Derived.Deep.QuietTactic
import Derived.BigQuiet
import Derived.Deep.RegionHeld3

/- salt.Open. -/
set_option maxRecDepth 100000
set_option linter.unusedVariables false
namespace Go.Proofs.YtlncnjcbgfeaoaaDoor
open Go.RowKit
structure OPN (key nonce p beside d : List UInt8) (k : Nat) : Prop where
  h : openS key nonce p beside = (d, k)
theorem OPN_ex (key nonce p beside : List UInt8) : ∃ d k, OPN key nonce p beside d k := ⟨_, _, ⟨rfl⟩⟩
/-- what opening answers by cases -/
structure OPB (key nonce p beside T d : List UInt8) (N k : Nat) : Prop where
  h : (T == p.drop N) = true ∧ MX key nonce (p.take N) d ∧ k = 0 ∨ (T == p.drop N) = false ∧ d = [] ∧ k = 5
theorem OPN.parts {key nonce p bs d : List UInt8} {k N : Nat} (h : OPN key nonce p bs d k) (hn : p.length = N + 16) {T : List UInt8} (hT : MK key nonce (p.take N) bs T) : OPB key nonce p bs T d N k := by
  have h1 := h.h
  unfold openS at h1
  rw [if_neg (by omega), show p.length - 16 = N by omega, hT.h] at h1
  refine ⟨?_⟩
  by_cases hq : (T == p.drop N) = true
  · rw [if_pos hq] at h1
    have h2 : mixS key nonce (p.take N) = d := congrArg Prod.fst h1
    exact .inl ⟨hq, ⟨h2, by rw [← h2]; exact mixJ_len _ _ _⟩, (congrArg Prod.snd h1).symm⟩
  · rw [if_neg hq] at h1
    refine .inr ⟨by simpa using hq, (congrArg Prod.fst h1).symm, (congrArg Prod.snd h1).symm⟩
structure OAF (W1 w4 : World) (gt : Nat) (T : List UInt8) : Prop where
  ab : AB w4 gt 92 T
  bl : Below W1.heap.size W1.drew w4
  le : W1.heap.size ≤ gt
set_option maxHeartbeats 4000000 in
theorem open_any (w : World) {a b : Option Addr} {n c m e k : Nat} {key nonce p bs d : List UInt8} (hkl : key.length = 32) (hnl : nonce.length = 12) (hp : BS w a n c p) (hb : BS w b m e bs) (hn : n + m ≤ 549755813888) (hD : OPN key nonce p bs d k) :
    Calls Tryd.prog 35 #[.agg (key.map B).toArray, .agg (nonce.map B).toArray, .slice a n c, .slice b m e] w fun x w' => ∃ a' c', x = .returned (.tuple #[.slice a' d.length c', .int .i64 (k : Int)]) ∧ OW w' w.heap.size 5 1 a' d.length c' (d.map B) ∧ Below w.heap.size w w' := by
  have hz1 : (w.alloc (.cells (key.map B).toArray 22)).heap.size = w.heap.size + 1 := by simp
  have hA := (AB_box w 22 key).al (.cells (nonce.map B).toArray 31)
  have hM := AB_box (w.alloc (.cells (key.map B).toArray 22)) 31 nonce
  have hbl : Below w.heap.size w _ := (below_alloc w (.cells (key.map B).toArray 22)).alloc (by simp) (.cells (nonce.map B).toArray 31)
  have hp1 := (RS.alloc hp (.cells (key.map B).toArray 22)).alloc (.cells (nonce.map B).toArray 31)
  have hq1 := (RS.alloc hb (.cells (key.map B).toArray 22)).alloc (.cells (nonce.map B).toArray 31)
  rw [hz1] at hM
  have hpl := BS.len hp
  rcases Nat.lt_or_ge n 16 with h16 | h16
  · have hd := hD.h
    unfold openS at hd
    rw [if_pos (by omega)] at hd
    obtain rfl : d = [] := (congrArg Prod.fst hd).symm
    obtain rfl : k = 2 := (congrArg Prod.snd hd).symm
    have HB := Lib.hid hbl
    clear hz1 hA hM hbl hp1 hq1 hd hD
    go_enter Tryd.func35, Tryd.ntmps35
    go_wp2
    go_ret2
    exact ⟨none, 0, rfl, OW_nil _ _ _ _, HB.out⟩
  have hi32 := Lib.hid (show (Tryd.prog.info? 22).map (·.size) = some (key.map B).length by rw [List.length_map, hkl]; kernel_rfl)
  have hi12 := Lib.hid (show (Tryd.prog.info? 31).map (·.size) = some (nonce.map B).length by rw [List.length_map, hnl]; kernel_rfl)
  obtain ⟨N, hN⟩ : ∃ N, n = N + 16 := ⟨n - 16, by omega⟩
  have hNi : (n : Int) - 16 = (N : Int) := by omega
  obtain ⟨T, hT⟩ := MK_ex key nonce (p.take N) bs
  have hTl := hT.len
  have hop := hD.parts (by omega) hT
  have hNn : N ≤ n := by omega
  clear hz1 hN
  go_enter Tryd.func35, Tryd.ntmps35
  go_upto_region 1 with (fail)
  generalize (World.alloc _ _) = W1 at *
  have l0 := hA.lt
  have l1 := hM.lt
  have hbs := hbl.size
  have rA : W1.drew.rangeAt w.heap.size 0 (key.map B) := hA.rng
  have rM : W1.drew.rangeAt (w.heap.size + 1) 0 (nonce.map B) := hM.rng
  obtain ⟨hcut, hsl⟩ := runB_h hp1 N hNn
  have Hmk := Lib.hid (mark_any W1.drew hkl hnl (RS.drew hcut) (RS.drew hq1) (by omega) hT)
  have HA := Lib.hid hA
  have HM := Lib.hid hM
  have HP := Lib.hid hp1
  have HB := Lib.hid hbl
  have HO := Lib.hid hop
  have HCUT := Lib.hid (RS.drew hcut)
  have HQ1 := Lib.hid (RS.drew hq1)
  have HT := Lib.hid hT
  have hnm : N + m ≤ 549755813888 := by omega
  have hu32 := Tryd.underlying22
  have hu12 := Tryd.underlying31
  have hs32 := hi32.out
  have hs12 := hi12.out
  clear hA hM hbl hp1 hq1 hT hop hD hcut
  go_upto_region 4 with (fail)
  refine wp_region_held_drew (S := fun w' => w'.rangeAt w.heap.size 0 (key.map B) ∧ w'.rangeAt (w.heap.size + 1) 0 (nonce.map B)) (by kernel_rfl) ⟨rA, rM⟩ (fun hHeld => ?_)
  refine wpAnyH_take (i := 0) rfl (by kernel_rfl) (by kernel_rfl) (by kernel_rfl) (fun _ _ _ h => h) (yieldsIf_load_mid (by rfl) _ _ rfl _ _ rfl _ _ (fun w h => h.1) hu32 rfl hs32) hHeld ?_
  try simp only [Act.put, List.getElem_toArray, List.getElem_cons_zero, List.setIfInBounds_toArray, List.set_cons_zero, List.set_cons_succ]
  refine wpAnyH_take (i := 1) rfl (by kernel_rfl) (by kernel_rfl) (by kernel_rfl) (fun _ _ _ h => h) (yieldsIf_load_mid (by rfl) _ _ rfl _ _ rfl _ _ (fun w h => h.2) hu12 rfl hs12) hHeld ?_
  try simp only [Act.put, List.getElem_toArray, List.getElem_cons_succ, List.getElem_cons_zero, List.setIfInBounds_toArray, List.set_cons_zero, List.set_cons_succ]
  refine wpAnyH_take (i := 2) (v := .slice a n c) rfl (by kernel_rfl) (by kernel_rfl) (by kernel_rfl) (fun _ _ _ h => h) (Or.inl ⟨by rfl, fun w h => by go_simp⟩) hHeld ?_
  try simp only [Act.put, List.getElem_toArray, List.getElem_cons_succ, List.getElem_cons_zero, List.setIfInBounds_toArray, List.set_cons_zero, List.set_cons_succ]
  refine wpAnyH_take (i := 3) (v := .int .i64 (N : Int)) rfl (by kernel_rfl) (by kernel_rfl) (by kernel_rfl) (fun _ _ _ h => h) (Or.inl ⟨by rfl, fun w h => by go_simp⟩) hHeld ?_
  try simp only [Act.put, List.getElem_toArray, List.getElem_cons_succ, List.getElem_cons_zero, List.setIfInBounds_toArray, List.set_cons_zero, List.set_cons_succ]
  refine wpAnyH_take (i := 4) (v := .slice a N c) rfl (by kernel_rfl) (by kernel_rfl) (by kernel_rfl) (fun _ _ _ h => h) (Or.inl ⟨by rfl, fun w h => by go_simp⟩) hHeld ?_
  try simp only [Act.put, List.getElem_toArray, List.getElem_cons_succ, List.getElem_cons_zero, List.setIfInBounds_toArray, List.set_cons_zero, List.set_cons_succ]
  refine wpAnyH_take (i := 5) (v := .slice b m e) rfl (by kernel_rfl) (by kernel_rfl) (by kernel_rfl) (fun _ _ _ h => h) (Or.inl ⟨by rfl, fun w h => by go_simp⟩) hHeld ?_
  try simp only [Act.put, List.getElem_toArray, List.getElem_cons_succ, List.getElem_cons_zero, List.setIfInBounds_toArray, List.set_cons_zero, List.set_cons_succ]
  refine (fun (hk : Hid (∀ (w4 : World) (gt : Nat), OAF W1 w4 gt T → (?P1 : World → Nat → Prop) w4 gt)) => ?main1) (Lib.hid ?rest1)
  case main1 =>
    refine wpAnyH_ready (rs := [6, 7]) (by kernel_rfl) (by simp) (AllReadyH.cons rfl (fun K hK => ?o1) (AllReadyH.cons rfl (fun K hK => ?o2) AllReadyH.nil))
    case o1 =>
      go_simp
      go_at_call 54
      refine Hmk.out.mono ?_
      rintro x w2 ⟨rfl, B2⟩
      refine hK.out _ _ ⟨rng_bel rA B2 l0, rng_bel rM B2 l1⟩ (fun hHeld => ?_)
      clear hK K
      try simp only [Act.put, List.getElem_toArray, List.getElem_cons_succ, List.getElem_cons_zero, List.setIfInBounds_toArray, List.set_cons_zero, List.set_cons_succ]
      refine wpAnyH_ready (rs := [7]) (by kernel_rfl) (by simp) (AllReadyH.cons rfl (fun K hK => ?_) AllReadyH.nil)
      go_simp
      have b3 := B2.alloc B2.size (.cells #[.int .u8 0, .int .u8 0, .int .u8 0, .int .u8 0, .int .u8 0, .int .u8 0, .int .u8 0, .int .u8 0, .int .u8 0, .int .u8 0, .int .u8 0, .int .u8 0, .int .u8 0, .int .u8 0, .int .u8 0, .int .u8 0] 92)
      have hz : AB (w2.alloc (.cells #[.int .u8 0, .int .u8 0, .int .u8 0, .int .u8 0, .int .u8 0, .int .u8 0, .int .u8 0, .int .u8 0, .int .u8 0, .int .u8 0, .int .u8 0, .int .u8 0, .int .u8 0, .int .u8 0, .int .u8 0, .int .u8 0] 92)) w2.heap.size 92 z16 := heap_alloc_new w2 _
      refine hK.out _ _ ⟨rng_bel rA b3 l0, rng_bel rM b3 l1⟩ (fun hHeld => ?_)
      clear hK K
      try simp only [Act.put, List.getElem_toArray, List.getElem_cons_succ, List.getElem_cons_zero, List.setIfInBounds_toArray, List.set_cons_zero, List.set_cons_succ]
      refine wpAnyH_ready (rs := [8]) (by kernel_rfl) (by simp) (AllReadyH.cons rfl (fun K hK => ?_) AllReadyH.nil)
      refine S_storeAB rfl _ _ _ rfl rfl rfl hz i16 (by simp [z16]) hTl ?_
      intro w4 hT4 hg4
      have z2 : W1.heap.size ≤ w2.heap.size := B2.size
      have b4 := b3.grown hg4 b3.size (fun k hk => by cases hk; exact z2)
      refine hK.out _ _ ⟨rng_bel rA b4 l0, rng_bel rM b4 l1⟩ (fun hHeld => ?_)
      clear hK K
      refine wpAnyH_done (by kernel_rfl) ?_ _
      try simp only [Act.put, List.getElem_toArray, List.getElem_cons_succ, List.getElem_cons_zero]
      obtain ⟨gt, hgt⟩ : ∃ gt, w2.heap.size = gt := ⟨_, rfl⟩
      rw [hgt] at hT4 z2 ⊢
      exact hk.out w4 gt ⟨hT4, b4, z2⟩
    case o2 =>
      go_simp
      have b1 := below_alloc W1.drew (.cells #[.int .u8 0, .int .u8 0, .int .u8 0, .int .u8 0, .int .u8 0, .int .u8 0, .int .u8 0, .int .u8 0, .int .u8 0, .int .u8 0, .int .u8 0, .int .u8 0, .int .u8 0, .int .u8 0, .int .u8 0, .int .u8 0] 92)
      have hz : AB (W1.drew.alloc (.cells #[.int .u8 0, .int .u8 0, .int .u8 0, .int .u8 0, .int .u8 0, .int .u8 0, .int .u8 0, .int .u8 0, .int .u8 0, .int .u8 0, .int .u8 0, .int .u8 0, .int .u8 0, .int .u8 0, .int .u8 0, .int .u8 0] 92)) W1.heap.size 92 z16 := heap_alloc_new W1.drew _
      have Hm2 := Lib.hid (mark_any (W1.drew.alloc (.cells #[.int .u8 0, .int .u8 0, .int .u8 0, .int .u8 0, .int .u8 0, .int .u8 0, .int .u8 0, .int .u8 0, .int .u8 0, .int .u8 0, .int .u8 0, .int .u8 0, .int .u8 0, .int .u8 0, .int .u8 0, .int .u8 0] 92)) hkl hnl (RS.alloc HCUT.out _) (RS.alloc HQ1.out _) hnm HT.out)
      refine hK.out _ _ ⟨rng_bel rA b1 l0, rng_bel rM b1 l1⟩ (fun hHeld => ?_)
      clear hK K
      try simp only [Act.put, List.getElem_toArray, List.getElem_cons_succ, List.getElem_cons_zero, List.setIfInBounds_toArray, List.set_cons_zero, List.set_cons_succ]
      refine wpAnyH_ready (rs := [6]) (by kernel_rfl) (by simp) (AllReadyH.cons rfl (fun K hK => ?_) AllReadyH.nil)
      go_simp
      go_at_call 54
      refine Hm2.out.mono ?_
      rintro x w2 ⟨rfl, B2⟩
      have b2 := btr b1 B2
      have hz2 := hz.bl B2 hz.lt
      refine hK.out _ _ ⟨rng_bel rA b2 l0, rng_bel rM b2 l1⟩ (fun hHeld => ?_)
      clear hK K
      try simp only [Act.put, List.getElem_toArray, List.getElem_cons_succ, List.getElem_cons_zero, List.setIfInBounds_toArray, List.set_cons_zero, List.set_cons_succ]
      refine wpAnyH_ready (rs := [8]) (by kernel_rfl) (by simp) (AllReadyH.cons rfl (fun K hK => ?_) AllReadyH.nil)
      refine S_storeAB rfl _ _ _ rfl rfl rfl hz2 i16 (by simp [z16]) hTl ?_
      intro w4 hT4 hg4
      have b4 := b2.grown hg4 b2.size (fun k hk => by cases hk; exact Nat.le_refl _)
      refine hK.out _ _ ⟨rng_bel rA b4 l0, rng_bel rM b4 l1⟩ (fun hHeld => ?_)
      clear hK K
      refine wpAnyH_done (by kernel_rfl) ?_ _
      try simp only [Act.put, List.getElem_toArray, List.getElem_cons_succ, List.getElem_cons_zero]
      exact hk.out w4 W1.heap.size ⟨hT4, b4, Nat.le_refl _⟩
  case rest1 =>
    intro w4 gt hF
    clear hHeld Hmk HCUT HQ1 HT
    have b4 : Below W1.heap.size W1 w4 := below_undrew hF.bl
    have hb4 := HB.out.trans (b4.mono hbs)
    have b4s := b4.size
    have hp4 := RS.below HP.out b4 (Nat.le_refl _)
    have hT5 := hF.ab.whole (n := 16) hTl (by omega)
    obtain ⟨a5, htl, hsl2⟩ := runB_l hp4 N hNn
    obtain ⟨hcut4, hsl3⟩ := runB_h hp4 N hNn
    have r4A : w4.rangeAt w.heap.size 0 (key.map B) := rng_bel rA hF.bl l0
    have r4M : w4.rangeAt (w.heap.size + 1) 0 (nonce.map B) := rng_bel rM hF.bl l1
    have heq : ∀ k, Calls Tryd.prog 55 #[.slice (some ⟨gt, 0, none⟩) 16 16, .slice a5 (n - N) (c - N)] (w4.drewN k) fun e w' => e = .returned (.bool (T == p.drop N)) ∧ w' = w4.drewN k := fun k => (equal_any (w4.drewN k) hT5 htl).mono fun e w' h => ⟨h.1, h.2.symm⟩
    have HEQ := Lib.hid heq
    have HB4 := Lib.hid hb4
    have HCUT := Lib.hid hcut4
    obtain ⟨q, hq⟩ : ∃ q, (T == p.drop N) = q := ⟨_, rfl⟩
    have hO := HO.out.h
    rw [hq] at HEQ hO
    clear hF b4 hb4 hp4 hT5 htl heq HP HB HO hcut4 rA rM hq
    go_upto_region 5 with (fail)
    go_quiet (first | (go_at_call 55; with_reducible exact Calls.quiet_of_same (HEQ.out _)))
    cases q
    · rcases hO with ⟨h, _⟩ | ⟨_, rfl, rfl⟩
      · cases h
      go_wp2
      go_ret2
      exact ⟨none, 0, rfl, OW_nil _ _ _ _, below_drewN HB4.out _⟩
    · rcases hO with ⟨_, hmx, rfl⟩ | ⟨h, _⟩
      rotate_left
      · cases h
      have hdl : d.length = N := by rw [hmx.len, List.length_take]; omega
      have Hmix := Lib.hid (fun k => mix_any (w4.drewN k).drew hkl hnl (RS.drew (RS.drewN HCUT.out k)) (by omega) hmx)
      clear hmx
      go_upto_region 7 with (fail)
      refine wp_region_held_drew (S := fun w' => w'.rangeAt w.heap.size 0 (key.map B) ∧ w'.rangeAt (w.heap.size + 1) 0 (nonce.map B)) (by kernel_rfl) ⟨r4A, r4M⟩ (fun hHeld => ?_)
      refine wpAnyH_take (i := 0) rfl (by kernel_rfl) (by kernel_rfl) (by kernel_rfl) (fun _ _ _ h => h) (yieldsIf_load_mid (by rfl) _ _ rfl _ _ rfl _ _ (fun w h => h.1) hu32 rfl hs32) hHeld ?_
      try simp only [Act.put, List.getElem_toArray, List.getElem_cons_zero, List.setIfInBounds_toArray, List.set_cons_zero, List.set_cons_succ]
      refine wpAnyH_take (i := 1) rfl (by kernel_rfl) (by kernel_rfl) (by kernel_rfl) (fun _ _ _ h => h) (yieldsIf_load_mid (by rfl) _ _ rfl _ _ rfl _ _ (fun w h => h.2) hu12 rfl hs12) hHeld ?_
      try simp only [Act.put, List.getElem_toArray, List.getElem_cons_succ, List.getElem_cons_zero, List.setIfInBounds_toArray, List.set_cons_zero, List.set_cons_succ]
      refine wpAnyH_take (i := 2) (v := .slice a n c) rfl (by kernel_rfl) (by kernel_rfl) (by kernel_rfl) (fun _ _ _ h => h) (Or.inl ⟨by rfl, fun w h => by go_simp⟩) hHeld ?_
      try simp only [Act.put, List.getElem_toArray, List.getElem_cons_succ, List.getElem_cons_zero, List.setIfInBounds_toArray, List.set_cons_zero, List.set_cons_succ]
      refine wpAnyH_take (i := 3) (v := .int .i64 (N : Int)) rfl (by kernel_rfl) (by kernel_rfl) (by kernel_rfl) (fun _ _ _ h => h) (Or.inl ⟨by rfl, fun w h => by go_simp⟩) hHeld ?_
      try simp only [Act.put, List.getElem_toArray, List.getElem_cons_succ, List.getElem_cons_zero, List.setIfInBounds_toArray, List.set_cons_zero, List.set_cons_succ]
      refine wpAnyH_take (i := 4) (v := .slice a N c) rfl (by kernel_rfl) (by kernel_rfl) (by kernel_rfl) (fun _ _ _ h => h) (Or.inl ⟨by rfl, fun w h => by go_simp⟩) hHeld ?_
      try simp only [Act.put, List.getElem_toArray, List.getElem_cons_succ, List.getElem_cons_zero, List.setIfInBounds_toArray, List.set_cons_zero, List.set_cons_succ]
      refine wpAnyH_ready (rs := [5]) (by kernel_rfl) (by simp) (AllReadyH.cons rfl (fun K hK => ?_) AllReadyH.nil)
      go_simp
      go_at_call 56
      refine (Hmix.out _).mono ?_
      rintro x w6 ⟨a6, c6, rfl, o6, B6⟩
      have hb5 := fun k => (below_drewN HB4.out k).drew
      have hb6 := (hb5 _).trans (B6.mono (hb5 _).size)
      refine hK.out _ _ ⟨rng_bel (by exact r4A) B6 (Nat.lt_of_lt_of_le l0 b4s), rng_bel (by exact r4M) B6 (Nat.lt_of_lt_of_le l1 b4s)⟩ (fun hHeld => ?_)
      clear hK K
      try simp only [Act.put, List.getElem_toArray, List.getElem_cons_succ, List.getElem_cons_zero, List.setIfInBounds_toArray, List.set_cons_zero, List.set_cons_succ]
      refine wpAnyH_take (i := 6) (v := .slice a6 N c6) rfl (by kernel_rfl) (by kernel_rfl) (by kernel_rfl) (fun _ _ _ h => h) (Or.inl ⟨by rfl, fun w h => by go_simp⟩) hHeld ?_
      try simp only [Act.put, List.getElem_toArray, List.getElem_cons_succ, List.getElem_cons_zero, List.setIfInBounds_toArray, List.set_cons_zero, List.set_cons_succ]
      refine wpAnyH_take (i := 7) (v := .int .i64 0) rfl (by kernel_rfl) (by kernel_rfl) (by kernel_rfl) (fun _ _ _ h => h) (Or.inl ⟨by rfl, fun w h => by go_simp⟩) hHeld ?_
      try simp only [Act.put, List.getElem_toArray, List.getElem_cons_succ, List.getElem_cons_zero, List.setIfInBounds_toArray, List.set_cons_zero, List.set_cons_succ]
      refine wpAnyH_done (by kernel_rfl) ?_ _
      try simp only [Act.put, List.getElem_toArray, List.getElem_cons_succ, List.getElem_cons_zero]
      go_wp2
      go_ret2
      refine ⟨a6, c6, ?_, ?_, hb6⟩
      · rfl
      · exact o6.mono (hb5 0).size
end Go.Proofs.YtlncnjcbgfeaoaaDoor

/- the reference's mark. -/
set_option maxRecDepth 100000
set_option linter.unusedVariables false
namespace Go.Proofs.YtlncnjcbgfeaoaaDoor
open Go.RowKit
theorem padN_again (m n : Nat) : padN (m + padN m + n) = padN n := by unfold padN; omega
theorem le8_take (v i : Nat) (hi : i < 8) : (le8 v).take (i + 1) = (le8 v).take i ++ [UInt8.ofNat (v / 2 ^ (8 * i))] := by
  rw [List.take_add_one]
  unfold le8
  rw [List.getElem?_map, List.getElem?_range hi]; rfl
/-- what stands ahead of the lengths, and so many of them -/
def mpre (p beside : List UInt8) : List UInt8 := beside ++ List.replicate (padN beside.length) 0 ++ p ++ List.replicate (padN p.length) 0
def mlen (p beside : List UInt8) : Nat → Nat
  | 0 => beside.length
  | _ => p.length
def mlens (p beside : List UInt8) (j : Nat) : List UInt8 := mpre p beside ++ (match j with | 0 => [] | 1 => le8 beside.length | _ => le8 beside.length ++ le8 p.length)
theorem mlens_msg (p beside : List UInt8) : mlens p beside 2 = msgS p beside := by simp [mlens, mpre, msgS]
theorem mlens_succ (p beside : List UInt8) (j : Nat) (hj : j < 2) : mlens p beside (j + 1) = mlens p beside j ++ le8 (mlen p beside j) := by
  have h : j = 0 ∨ j = 1 := by omega
  rcases h with rfl | rfl <;> simp [mlens, mlen]
theorem mlens_len (p beside : List UInt8) (j : Nat) (hj : j ≤ 2) : (mlens p beside j).length = (mpre p beside).length + 8 * j := by
  have h : j = 0 ∨ j = 1 ∨ j = 2 := by omega
  rcases h with rfl | rfl | rfl <;> simp [mlens, le8_len]
structure MQ (w W5 wr : World) (gi : Nat) (p bs : List UInt8) (a : Option Addr) (n c : Nat) (xs : List UInt8) : Prop where
  own : OW wr w.heap.size 5 1 a n c (xs.map B)
  bl : Below w.heap.size w wr
  nums : AV wr gi 3 [.int .i64 (bs.length : Int), .int .i64 (p.length : Int)]
  ne : ∀ ad, a = some ad → ad.block ≠ gi
theorem MQ.app {w W5 wr w6 : World} {gi : Nat} {p bs : List UInt8} {a a6 : Option Addr} {n c c6 : Nat} {xs : List UInt8} {v : UInt8} (h : MQ w W5 wr gi p bs a n c xs) {o : Obj} (o6 : OW w6 w.heap.size 5 1 a6 (n + 1) c6 (xs.map B ++ [B v]))
    (g6 : (wr.alloc o).grownBy w6 (a.map (·.block))) (n6 : ∀ ad, a6 = some ad → a = some ad ∨ (wr.alloc o).heap.size ≤ ad.block) : MQ w W5 w6 gi p bs a6 (n + 1) c6 (xs ++ [v]) := by
  have hz := h.bl.size
  have lgi := h.nums.lt
  refine ⟨by rw [List.map_append]; exact o6, (h.bl.alloc hz o).grown g6 (by simp; omega) (row_le (fun ad ha => (h.own.base_le ha).1) (Nat.le_refl _)), ?_, fun ad ha => ?_⟩
  · have h1 : AV (wr.alloc o) gi 3 _ := h.nums.grown (World.grownBy_alloc wr o none) (by simp)
    refine h1.grown g6 ?_
    cases a with
    | none => simp
    | some ad => have := h.ne ad rfl; simp; exact fun e => this e.symm
  · rcases n6 ad ha with h1 | h1
    · exact h.ne ad h1
    · simp at h1; omega
set_option maxHeartbeats 4000000 in
theorem rmark_any (w : World) {a b o u : Option Addr} {n c m e l f r t : Nat} {key nonce p bs d : List UInt8} (hk : BS w a n c key) (hn : BS w b m e nonce) (hp : BS w o l f p) (hb : BS w u r t bs) (hkl : key.length = 32) (hnl : nonce.length = 12) (hl : l + r ≤ 549755813888) (hD : MK key nonce p bs d) :
    Calls Tryd.prog 59 #[.slice a n c, .slice b m e, .slice o l f, .slice u r t] w fun x w' => ∃ a c, x = .returned (.slice a 16 c) ∧ OW w' w.heap.size 5 1 a 16 c (d.map B) ∧ Below w.heap.size w w' := by
  have hpl := BS.len hp
  have hbl := BS.len hb
  have HK := Lib.hid hk
  have HNn := Lib.hid hn
  have HP := Lib.hid hp
  have hpad1 := padN_lt r
  have hpad2 := padN_lt l
  have hpad3 := padN_again r l
  have hcp := copyP w hb (by omega)
  have Hcp := Lib.hid hcp
  clear hk hn hp hcp hb
  go_enter Tryd.func59, Tryd.ntmps59
  go_upto_region 2 with (first
    | (go_at_call 18; refine Hcp.out.mono ?_; rintro x w1 ⟨a1, c1, rfl, o1, B1⟩)
    | (go_at_call 77; refine (rfill_any w3 w.heap.size o3 hz3 (by omega)).mono ?_; rintro x w4 ⟨a4, c4, rfl, o4, B4⟩)
    | (go_at_call 77; refine (rfill_any w1 w.heap.size o1 B1.size (by omega)).mono ?_; rintro x w2 ⟨a2, c2, rfl, o2, B2⟩; have hp2 := RS.below HP.out (B1.trans B2) (Nat.le_refl _); have hz2 := Nat.le_trans B1.size B2.size)
    | (at_builtin; refine L_append tB o2 hp2 _ _ rfl rfl rfl rfl (by omega) (by unfold maxLen; omega) hz2 ?_; intro a3 c3 w3 o3' g3; have hz3 : w.heap.size ≤ w3.heap.size := Nat.le_trans hz2 g3.size; have o3 : OW w3 w.heap.size 5 1 a3 (r + padN r + l) c3 ((bs ++ List.replicate (padN r) 0 ++ p).map B) := by rw [List.map_append]; exact o3'))
  have hb3 : Below w.heap.size w w3 := ((B1.trans B2).grown g3 hz2 (row_le (fun ad ha => (o2.base_le ha).1) (Nat.le_refl _)))
  have hb4 := hb3.trans B4
  obtain ⟨K, hK⟩ : ∃ K, r + padN r + l + padN l = K := ⟨_, rfl⟩
  have hpre : bs ++ List.replicate (padN r) 0 ++ p ++ List.replicate (padN (r + padN r + l)) 0 = mlens p bs 0 := by
    rw [hpad3]; simp [mlens, mpre, hpl, hbl]
  rw [hpre, hpad3, hK] at o4
  rw [hK]
  have hKl : (mpre p bs).length = K := by rw [← hK]; simp [mpre, hpl, hbl]; omega
  have hKm : K ≤ 549755813950 := by rw [← hK]; omega
  have O4 := Lib.hid o4
  have HB4 := Lib.hid hb4
  have hs2 := mlens_succ p bs
  have Hs2 := Lib.hid hs2
  have HKl := Lib.hid hKl
  have hm0 : mlen p bs 0 = r := hbl
  have hm1 : mlen p bs 1 = l := hpl
  have Hm0 := EQ1.mk hm0
  have Hm1 := EQ1.mk hm1
  clear o4 hb4 hb3 hK hpre hKl hs2 hm0 hm1 o3 o3' g3 o2 hp2 B2 B1 o1 B4 hz2 hz3 Hcp hpad3
  go_upto_region 3 with (fail)
  have hI : AV (w4.alloc (.cells #[.int .i64 (r : Int), .int .i64 (l : Int)] 3)) w4.heap.size 3 [.int .i64 (r : Int), .int .i64 (l : Int)] := heap_alloc_new w4 _
  have hz4 := HB4.out.size
  have hbI := HB4.out.alloc hz4 (.cells #[.int .i64 (r : Int), .int .i64 (l : Int)] 3)
  have oI := O4.out.alloc (.cells #[.int .i64 (r : Int), .int .i64 (l : Int)] 3)
  obtain ⟨gi, hgi⟩ : ∃ gi, w4.heap.size = gi := ⟨_, rfl⟩
  have hai : ∀ ad, a4 = some ad → ad.block < gi := fun ad ha => by rw [← hgi]; exact (O4.out.base_le ha).2
  rw [hgi] at hI ⊢
  generalize (World.alloc _ _) = W5 at *
  have HI := Lib.hid hI
  have HBI := Lib.hid hbI
  have OI := Lib.hid oI
  have Hai := Lib.hid hai
  have lgi := hI.lt
  clear hI hbI oI hai hgi
  go_loopw [9, 24] (fun s9 s24 wr => ∃ (j : Nat) (a : Option Addr) (c : Nat), j ≤ 2 ∧ s24 = .int .i64 (j : Int) ∧ s9 = .slice a (K + 8 * j) c ∧ MQ w W5 wr gi p bs a (K + 8 * j) c (mlens p bs j)) (fun _ s24 _ => 2 - (intOf s24).toNat)
  case atStart => exact ⟨0, _, _, by omega, rfl, rfl, ⟨OI.out, HBI.out, by rw [hbl, hpl]; exact HI.out, fun ad ha => Nat.ne_of_lt (Hai.out ad ha)⟩⟩
  case round =>
    obtain ⟨j, a', c', hj, rfl, rfl, hq⟩ := hrel
    by_cases hlt : j < 2
    · obtain ⟨V, hV⟩ : ∃ V, mlen p bs j = V := ⟨_, rfl⟩
      have hj2 : j = 0 ∨ j = 1 := by omega
      have hVm : V ≤ 549755813888 := by
        rcases hj2 with rfl | rfl
        · rw [← hV, Hm0.h]; omega
        · rw [← hV, Hm1.h]; omega
      have q0 : wr.cell? ⟨gi, j, none⟩ = some (.int .i64 (V : Int)) := hq.nums.cell j _ (by rcases hj2 with rfl | rfl <;> rw [← hV] <;> rfl)
      obtain ⟨C, hC⟩ : ∃ C, mlens p bs j = C := ⟨_, rfl⟩
      have hnx : EB (mlens p bs (j + 1)) (C ++ (le8 V).take 8) := ⟨by rw [Hs2.out j hlt, hC, hV, List.take_of_length_le (by rw [le8_len]; exact Nat.le_refl _)]⟩
      obtain ⟨K2, hK2⟩ : ∃ K2, K + 8 * j = K2 := ⟨_, rfl⟩
      have hK2m : K2 ≤ 1099511627800 := by omega
      rw [hC, hK2] at hq
      rw [hK2]
      have HQ := Lib.hid hq
      have HK2 := Lib.hid hK2
      have lgw := hq.nums.lt
      clear hq hC hV hK2 hj2
      go_upto_region 6 with (fail)
      clear q0
      try rw [show decide ((j : Int) < 2) = true from decide_eq_true (by omega)]
      go_loopw [9, 11, 28] (fun s9 s11 s28 wr => ∃ (i : Nat) (a : Option Addr) (c : Nat), i ≤ 8 ∧ s28 = .int .i64 (i : Int) ∧ s11 = .int .i64 ((V / 256 ^ i : Nat) : Int) ∧ s9 = .slice a (K2 + i) c ∧ MQ w W5 wr gi p bs a (K2 + i) c (C ++ (le8 V).take i)) (fun _ _ s28 _ => 8 - (intOf s28).toNat)
      case atStart => exact ⟨0, _, _, by omega, rfl, by simp, rfl, by simpa using HQ.out⟩
      case round =>
        obtain ⟨i, a', c', hi, rfl, rfl, rfl, hq⟩ := hrel
        clear HQ
        obtain ⟨m1, hm1⟩ : ∃ m1, K2 + i = m1 := ⟨_, rfl⟩
        rw [hm1] at hq ⊢
        have hlen := hq.own.rs.le
        have hsz := hq.bl.size
        by_cases hlt8 : i < 8
        · have htk := le8_take V i hlt8
          rw [show V / 2 ^ (8 * i) = V / 256 ^ i by rw [Nat.pow_mul]] at htk
          have hnu : V / 256 ^ (i + 1) = V / 256 ^ i / 256 := by rw [Nat.pow_succ, Nat.div_div_eq_div_mul]
          have hule : V / 256 ^ i ≤ V := Nat.div_le_self _ _
          obtain ⟨U1, hU1⟩ : ∃ U1, V / 256 ^ i = U1 := ⟨_, rfl⟩
          rw [hU1] at htk hnu hule ⊢
          obtain ⟨U2, hU2⟩ : ∃ U2, V / 256 ^ (i + 1) = U2 := ⟨_, rfl⟩
          rw [hU2] at hnu
          obtain ⟨y, hy⟩ : ∃ y, U1 % 256 = y := ⟨_, rfl⟩
          have hyl : y < 256 := by omega
          have hym : (U1 : Int).tmod 256 = (y : Int) := by rw [Int.tmod_eq_emod_of_nonneg (by omega)]; omega
          have hyd : (U1 : Int).tdiv 256 = (U2 : Int) := by rw [Int.tdiv_eq_ediv_of_nonneg (by omega)]; omega
          have hBy : B (UInt8.ofNat U1) = .int .u8 (y : Int) := by simp only [B, UInt8.toNat_ofNat']; rw [show U1 % 2 ^ 8 = y from hy]
          have HBy := Lib.hid hBy
          have Htk := EB.mk htk
          have HU2 := Lib.hid hU2
          have HQ := Lib.hid hq
          have Hm := Lib.hid hm1
          have hm1l : m1 ≤ 1099511627900 := by omega
          have hwy : IntKind.u8.wrap (y : Int) = (y : Int) := by rw [IntKind.wrap_u8']; omega
          have hU2l : U2 ≤ 549755813888 := by omega
          clear hq htk hU1 hU2 hy hBy hnu hm1
          go_wp2_with (at_builtin; refine L_append_at tB (OW.alloc HQ.out.own _) (RS_one _ _ _ rfl) _ _ rfl rfl rfl rfl (by omega) (by unfold maxLen; omega) (by simp; omega) ?_; intro a6 c6 w6 o6 g6 n6)
          rw [← HBy.out] at o6
          have HN := Lib.hid (HQ.out.app o6 g6 n6)
          rw [List.append_assoc, ← Htk.h] at HN
          clear o6 g6 n6
          go_roundw
          case rel => exact ⟨i + 1, _, _, by omega, by go_num, by rw [HU2.out], by rw [← Nat.add_assoc, Hm.out], by rw [← Nat.add_assoc, Hm.out]; exact HN.out⟩
          case measure => simp [intOf]; omega
        · have hi8 : i = 8 := by omega
          subst hi8
          rw [← hnx.h] at hq
          have hk3 : m1 = K + 8 * (j + 1) := by have := HK2.out; omega
          rw [hk3] at hq ⊢
          have HQ := Lib.hid hq
          clear hq hk3 hm1
          go_wp2
          go_roundw
          case rel => exact ⟨j + 1, _, _, by omega, by go_num, rfl, HQ.out⟩
          case measure => simp [intOf]; omega
    · have hj2 : j = 2 := by omega
      subst hj2
      rw [mlens_msg] at hq
      obtain ⟨bk, hbk⟩ := ST_ex key nonce 0
      have hbkl := hbk.len
      have hres := hD.h
      unfold markS at hres
      rw [show blkS key nonce 0 = bk from hbk.h] at hres
      have htg : TG (bk.take 32) (msgS p bs) d := ⟨hres, hD.len⟩
      obtain ⟨M, hM⟩ : ∃ M, msgS p bs = M := ⟨_, rfl⟩
      rw [hM] at hq htg
      have Htg := Lib.hid htg
      have HQ := Lib.hid hq
      have Hblk := Lib.hid (rblock_any wr (RS.below HK.out hq.bl (Nat.le_refl _)) (RS.below HNn.out hq.bl (Nat.le_refl _)) hkl hnl 0 (by omega) hbk)
      have hKm2 : K + 8 * 2 ≤ 1099511627776 := by omega
      have hzw := hq.bl.size
      clear hq htg hres hbk hM hD
      go_wp2_with (first
        | (go_at_call 58; refine Hblk.out.mono ?_; rintro x w6 ⟨a6, c6, rfl, o6, B6⟩)
        | (refine LB_slice_h tB o6.rs 32 _ _ rfl rfl _ _ rfl rfl rfl (by omega) ?_; intro h32)
        | (go_at_call 78; refine (rtag_any _ h32 (RS.below HQ.out.own.rs B6 (Nat.le_refl _)) (Nat.le_refl _) hKm2 Htg.out).mono ?_; rintro x w7 ⟨a7, c7, rfl, o7, B7⟩))
      have hb6 := HQ.out.bl.trans (B6.mono hzw)
      have hb7 := hb6.trans (B7.mono hb6.size)
      go_ret
      exact ⟨_, _, rfl, o7.mono hb6.size, hb7⟩
end Go.Proofs.YtlncnjcbgfeaoaaDoor

/- the reference's Close and Open. -/
set_option maxRecDepth 100000
set_option linter.unusedVariables false
namespace Go.Proofs.YtlncnjcbgfeaoaaDoor
open Go.RowKit
theorem ropen_short (w : World) {a b o u : Option Addr} {n c m e l f r t k : Nat} {key nonce p bs d : List UInt8} (hp : BS w o l f p) (hl : l < 16) (hD : OPN key nonce p bs d k) :
    Calls Tryd.prog 42 #[.slice a n c, .slice b m e, .slice o l f, .slice u r t] w fun x w' => ∃ a c, x = .returned (.tuple #[.slice a d.length c, .int .i64 (k : Int)]) ∧ OW w' w.heap.size 5 1 a d.length c (d.map B) ∧ Below w.heap.size w w' := by
  have hpl := BS.len hp
  have hd := hD.h
  unfold openS at hd
  rw [if_pos (by omega)] at hd
  obtain rfl : d = [] := (congrArg Prod.fst hd).symm
  obtain rfl : k = 2 := (congrArg Prod.snd hd).symm
  clear hd hD hp hpl
  go_enter Tryd.func42, Tryd.ntmps42
  go_wp2
  go_ret2
  exact ⟨none, 0, rfl, OW_nil _ _ _ _, Below.refl _ _⟩
set_option maxHeartbeats 4000000 in
theorem ropen_any (w : World) {a b o u : Option Addr} {n c m e l f r t k : Nat} {key nonce p bs d : List UInt8} (hk : BS w a n c key) (hn : BS w b m e nonce) (hp : BS w o l f p) (hb : BS w u r t bs) (hkl : key.length = 32) (hnl : nonce.length = 12) (hl : l ≤ 65536) (hr : r ≤ 65536) (hD : OPN key nonce p bs d k) :
    Calls Tryd.prog 42 #[.slice a n c, .slice b m e, .slice o l f, .slice u r t] w fun x w' => ∃ a c, x = .returned (.tuple #[.slice a d.length c, .int .i64 (k : Int)]) ∧ OW w' w.heap.size 5 1 a d.length c (d.map B) ∧ Below w.heap.size w w' := by
  rcases Nat.lt_or_ge l 16 with h16 | h16
  · exact ropen_short w hp h16 hD
  have hpl := BS.len hp
  obtain ⟨N, hN⟩ : ∃ N, l = N + 16 := ⟨l - 16, by omega⟩
  have hNi : (l : Int) - 16 = (N : Int) := by omega
  obtain ⟨T, hT⟩ := MK_ex key nonce (p.take N) bs
  have hop := hD.parts (by omega) hT
  have hNl : N ≤ l := by omega
  obtain ⟨hcut, hsl⟩ := runB_h hp N hNl
  obtain ⟨a5, htl, hsl2⟩ := runB_l hp N hNl
  have Hmk := Lib.hid (rmark_any w.drew (RS.drew hk) (RS.drew hn) (RS.drew hcut) (RS.drew hb) hkl hnl (by omega) hT)
  have HK := Lib.hid hk
  have HNn := Lib.hid hn
  have HCUT := Lib.hid hcut
  have HTL := Lib.hid (RS.drew htl)
  obtain ⟨q, hq⟩ : ∃ q, (T == p.drop N) = q := ⟨_, rfl⟩
  have hO := hop.h
  rw [hq] at hO
  have Hq := Lib.hid hq
  have HO := Lib.hid hO
  clear hT hop hcut htl hk hn hp hb hD hN hq hO
  go_enter Tryd.func42, Tryd.ntmps42
  go_upto_region 4 with (fail)
  go_region_held3 (fun _ => True) (first | exact trivial | go_keep)
    (first
    | (go_at_call 59; (with_reducible refine Hmk.out.mono ?_); rintro x w2 ⟨a2, c2, rfl, o2, B2⟩; have hsm := same_any w2 o2.rs (RS.below HTL.out B2 (Nat.le_refl _)); rw [Hq.out] at hsm)
    | (go_at_call 15; (with_reducible refine hsm.mono ?_); rintro x w3 ⟨rfl, rfl⟩))
  have hb2 : Below w.heap.size w _ := below_undrew B2
  have hb2' := hb2
  cases q
  · rcases HO.out with ⟨h, _⟩ | ⟨_, rfl, rfl⟩
    · cases h
    go_wp2
    go_ret2
    exact ⟨none, 0, rfl, OW_nil _ _ _ _, hb2⟩
  · rcases HO.out with ⟨_, hmx, rfl⟩ | ⟨h, _⟩
    rotate_left
    · cases h
    have hdl : d.length = N := by rw [hmx.len, List.length_take]; omega
    have Hmix := Lib.hid (rmix_any _ (RS.below HK.out hb2 (Nat.le_refl _)) (RS.below HNn.out hb2 (Nat.le_refl _)) (RS.below HCUT.out hb2 (Nat.le_refl _)) hkl hnl (by omega) hmx)
    clear hmx
    go_wp2_with (go_at_call 60; refine Hmix.out.mono ?_; rintro x w5 ⟨a6, c6, rfl, o6, B6⟩)
    go_ret2
    refine ⟨a6, c6, ?_, ?_, hb2'.trans (B6.mono hb2'.size)⟩
    · first | rfl | (rw [hdl]; rfl)
    · first | exact o6.mono hb2'.size | (rw [hdl]; exact o6.mono hb2'.size)
end Go.Proofs.YtlncnjcbgfeaoaaDoor
