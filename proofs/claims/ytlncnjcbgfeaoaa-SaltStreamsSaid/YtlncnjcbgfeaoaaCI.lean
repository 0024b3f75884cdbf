/- salt.Open. -/
import Derived.Test.YtlncnjcbgfeaoaaCH
import Derived.Test.YtlncnjcbgfeaoaaA1
import Derived.Test.YtlncnjcbgfeaoaaDB
import Derived.Deep.QuietTactic
import Derived.BigQuiet
set_option maxRecDepth 100000
set_option linter.unusedVariables false
namespace Go.Proofs.Ytlncnjcbgfeaoaa
open Go.RowKit
structure OPN (key nonce p beside d : List UInt8) (k : Nat) : Prop where
  h : openS key nonce p beside = (d, k)
theorem OPN_ex (key nonce p beside : List UInt8) : ∃ d k, OPN key nonce p beside d k := ⟨_, _, ⟨rfl⟩⟩
/-- what opening answers by cases -/
structure OPB (key nonce p beside T d : List UInt8) (N k : Nat) : Prop where
  h : (T == p.drop N) = true ∧ MX key nonce (p.take N) d ∧ k = 0 ∨ (T == p.drop N) = false ∧ d = [] ∧ k = 5
theorem OPN.parts {key nonce p bs d : List UInt8} {k N : Nat} (h : OPN key nonce p bs d k) (hn : p.length = N + 16) {T : List UInt8} (hT : MK key nonce (p.take N) bs T) : OPB key nonce p bs T d N k := by
  have h1 := h.h
  unfold openS at h1
  rw [if_neg (by omega), show p.length - 16 = N by omega, hT.h] at h1
  refine ⟨?_⟩
  by_cases hq : (T == p.drop N) = true
  · rw [if_pos hq] at h1
    have h2 : mixS key nonce (p.take N) = d := congrArg Prod.fst h1
    exact .inl ⟨hq, ⟨h2, by rw [← h2]; exact mixJ_len _ _ _⟩, (congrArg Prod.snd h1).symm⟩
  · rw [if_neg hq] at h1
    refine .inr ⟨by simpa using hq, (congrArg Prod.fst h1).symm, (congrArg Prod.snd h1).symm⟩
structure OAF (W1 w4 : World) (gt : Nat) (T : List UInt8) : Prop where
  ab : AB w4 gt 27 T
  bl : Below W1.heap.size W1.drew w4
  le : W1.heap.size ≤ gt
set_option maxHeartbeats 4000000 in
theorem open_any (w : World) {a b : Option Addr} {n c m e k : Nat} {key nonce p bs d : List UInt8} (hkl : key.length = 32) (hnl : nonce.length = 12) (hp : BS w a n c p) (hb : BS w b m e bs) (hn : n + m ≤ 549755813888) (hD : OPN key nonce p bs d k) :
    Calls Try.prog 16 #[.agg (key.map B).toArray, .agg (nonce.map B).toArray, .slice a n c, .slice b m e] w fun x w' => ∃ a' c', x = .returned (.tuple #[.slice a' d.length c', .int .i64 (k : Int)]) ∧ OW w' w.heap.size 5 1 a' d.length c' (d.map B) ∧ Below w.heap.size w w' := by
  have hz1 : (w.alloc (.cells (key.map B).toArray 22)).heap.size = w.heap.size + 1 := by simp
  have hA := (AB_box w 22 key).al (.cells (nonce.map B).toArray 32)
  have hM := AB_box (w.alloc (.cells (key.map B).toArray 22)) 32 nonce
  have hbl : Below w.heap.size w _ := (below_alloc w (.cells (key.map B).toArray 22)).alloc (by simp) (.cells (nonce.map B).toArray 32)
  have hp1 := (RS.alloc hp (.cells (key.map B).toArray 22)).alloc (.cells (nonce.map B).toArray 32)
  have hq1 := (RS.alloc hb (.cells (key.map B).toArray 22)).alloc (.cells (nonce.map B).toArray 32)
  rw [hz1] at hM
  have hpl := BS.len hp
  rcases Nat.lt_or_ge n 16 with h16 | h16
  · have hd := hD.h
    unfold openS at hd
    rw [if_pos (by omega)] at hd
    obtain rfl : d = [] := (congrArg Prod.fst hd).symm
    obtain rfl : k = 2 := (congrArg Prod.snd hd).symm
    have HB := Lib.hid hbl
    clear hz1 hA hM hbl hp1 hq1 hd hD
    go_enter Try.func16, Try.ntmps16
    go_wp2
    go_ret2
    exact ⟨none, 0, rfl, OW_nil _ _ _ _, HB.out⟩
  have hi32 := Lib.hid (show (Try.prog.info? 22).map (·.size) = some (key.map B).length by rw [List.length_map, hkl]; kernel_rfl)
  have hi12 := Lib.hid (show (Try.prog.info? 32).map (·.size) = some (nonce.map B).length by rw [List.length_map, hnl]; kernel_rfl)
  obtain ⟨N, hN⟩ : ∃ N, n = N + 16 := ⟨n - 16, by omega⟩
  have hNi : (n : Int) - 16 = (N : Int) := by omega
  obtain ⟨T, hT⟩ := MK_ex key nonce (p.take N) bs
  have hTl := hT.len
  have hop := hD.parts (by omega) hT
  have hNn : N ≤ n := by omega
  clear hz1 hN
  go_enter Try.func16, Try.ntmps16
  go_upto_region 1 with (fail)
  generalize (World.alloc _ _) = W1 at *
  have l0 := hA.lt
  have l1 := hM.lt
  have hbs := hbl.size
  have rA : W1.drew.rangeAt w.heap.size 0 (key.map B) := hA.rng
  have rM : W1.drew.rangeAt (w.heap.size + 1) 0 (nonce.map B) := hM.rng
  obtain ⟨hcut, hsl⟩ := runB_h hp1 N hNn
  have Hmk := Lib.hid (mark_any W1.drew hkl hnl (RS.drew hcut) (RS.drew hq1) (by omega) hT)
  have HA := Lib.hid hA
  have HM := Lib.hid hM
  have HP := Lib.hid hp1
  have HB := Lib.hid hbl
  have HO := Lib.hid hop
  have HCUT := Lib.hid (RS.drew hcut)
  have HQ1 := Lib.hid (RS.drew hq1)
  have HT := Lib.hid hT
  have hnm : N + m ≤ 549755813888 := by omega
  have hu32 := Try.underlying22
  have hu12 := Try.underlying32
  have hs32 := hi32.out
  have hs12 := hi12.out
  clear hA hM hbl hp1 hq1 hT hop hD hcut
  go_upto_region 4 with (fail)
  refine wp_region_held_drew (S := fun w' => w'.rangeAt w.heap.size 0 (key.map B) ∧ w'.rangeAt (w.heap.size + 1) 0 (nonce.map B)) (by kernel_rfl) ⟨rA, rM⟩ (fun hHeld => ?_)
  refine wpAnyH_take (i := 0) rfl (by kernel_rfl) (by kernel_rfl) (by kernel_rfl) (fun _ _ _ h => h) (yieldsIf_load_mid (by rfl) _ _ rfl _ _ rfl _ _ (fun w h => h.1) hu32 rfl hs32) hHeld ?_
  try simp only [Act.put, List.getElem_toArray, List.getElem_cons_zero, List.setIfInBounds_toArray, List.set_cons_zero, List.set_cons_succ]
  refine wpAnyH_take (i := 1) rfl (by kernel_rfl) (by kernel_rfl) (by kernel_rfl) (fun _ _ _ h => h) (yieldsIf_load_mid (by rfl) _ _ rfl _ _ rfl _ _ (fun w h => h.2) hu12 rfl hs12) hHeld ?_
  try simp only [Act.put, List.getElem_toArray, List.getElem_cons_succ, List.getElem_cons_zero, List.setIfInBounds_toArray, List.set_cons_zero, List.set_cons_succ]
  refine wpAnyH_take (i := 2) (v := .slice a n c) rfl (by kernel_rfl) (by kernel_rfl) (by kernel_rfl) (fun _ _ _ h => h) (Or.inl ⟨by rfl, fun w h => by go_simp⟩) hHeld ?_
  try simp only [Act.put, List.getElem_toArray, List.getElem_cons_succ, List.getElem_cons_zero, List.setIfInBounds_toArray, List.set_cons_zero, List.set_cons_succ]
  refine wpAnyH_take (i := 3) (v := .int .i64 (N : Int)) rfl (by kernel_rfl) (by kernel_rfl) (by kernel_rfl) (fun _ _ _ h => h) (Or.inl ⟨by rfl, fun w h => by go_simp⟩) hHeld ?_
  try simp only [Act.put, List.getElem_toArray, List.getElem_cons_succ, List.getElem_cons_zero, List.setIfInBounds_toArray, List.set_cons_zero, List.set_cons_succ]
  refine wpAnyH_take (i := 4) (v := .slice a N c) rfl (by kernel_rfl) (by kernel_rfl) (by kernel_rfl) (fun _ _ _ h => h) (Or.inl ⟨by rfl, fun w h => by go_simp⟩) hHeld ?_
  try simp only [Act.put, List.getElem_toArray, List.getElem_cons_succ, List.getElem_cons_zero, List.setIfInBounds_toArray, List.set_cons_zero, List.set_cons_succ]
  refine wpAnyH_take (i := 5) (v := .slice b m e) rfl (by kernel_rfl) (by kernel_rfl) (by kernel_rfl) (fun _ _ _ h => h) (Or.inl ⟨by rfl, fun w h => by go_simp⟩) hHeld ?_
  try simp only [Act.put, List.getElem_toArray, List.getElem_cons_succ, List.getElem_cons_zero, List.setIfInBounds_toArray, List.set_cons_zero, List.set_cons_succ]
  refine (fun (hk : Hid (∀ (w4 : World) (gt : Nat), OAF W1 w4 gt T → (?P1 : World → Nat → Prop) w4 gt)) => ?main1) (Lib.hid ?rest1)
  case main1 =>
    refine wpAnyH_ready (rs := [6, 7]) (by kernel_rfl) (by simp) (AllReadyH.cons rfl (fun K hK => ?o1) (AllReadyH.cons rfl (fun K hK => ?o2) AllReadyH.nil))
    case o1 =>
      go_simp
      go_at_call 30
      refine Hmk.out.mono ?_
      rintro x w2 ⟨rfl, B2⟩
      refine hK.out _ _ ⟨rng_bel rA B2 l0, rng_bel rM B2 l1⟩ (fun hHeld => ?_)
      clear hK K
      try simp only [Act.put, List.getElem_toArray, List.getElem_cons_succ, List.getElem_cons_zero, List.setIfInBounds_toArray, List.set_cons_zero, List.set_cons_succ]
      refine wpAnyH_ready (rs := [7]) (by kernel_rfl) (by simp) (AllReadyH.cons rfl (fun K hK => ?_) AllReadyH.nil)
      go_simp
      have b3 := B2.alloc B2.size (.cells #[.int .u8 0, .int .u8 0, .int .u8 0, .int .u8 0, .int .u8 0, .int .u8 0, .int .u8 0, .int .u8 0, .int .u8 0, .int .u8 0, .int .u8 0, .int .u8 0, .int .u8 0, .int .u8 0, .int .u8 0, .int .u8 0] 27)
      have hz : AB (w2.alloc (.cells #[.int .u8 0, .int .u8 0, .int .u8 0, .int .u8 0, .int .u8 0, .int .u8 0, .int .u8 0, .int .u8 0, .int .u8 0, .int .u8 0, .int .u8 0, .int .u8 0, .int .u8 0, .int .u8 0, .int .u8 0, .int .u8 0] 27)) w2.heap.size 27 z16 := heap_alloc_new w2 _
      refine hK.out _ _ ⟨rng_bel rA b3 l0, rng_bel rM b3 l1⟩ (fun hHeld => ?_)
      clear hK K
      try simp only [Act.put, List.getElem_toArray, List.getElem_cons_succ, List.getElem_cons_zero, List.setIfInBounds_toArray, List.set_cons_zero, List.set_cons_succ]
      refine wpAnyH_ready (rs := [8]) (by kernel_rfl) (by simp) (AllReadyH.cons rfl (fun K hK => ?_) AllReadyH.nil)
      refine S_storeAB rfl _ _ _ rfl rfl rfl hz i16 (by simp [z16]) hTl ?_
      intro w4 hT4 hg4
      have z2 : W1.heap.size ≤ w2.heap.size := B2.size
      have b4 := b3.grown hg4 b3.size (fun k hk => by cases hk; exact z2)
      refine hK.out _ _ ⟨rng_bel rA b4 l0, rng_bel rM b4 l1⟩ (fun hHeld => ?_)
      clear hK K
      refine wpAnyH_done (by kernel_rfl) ?_ _
      try simp only [Act.put, List.getElem_toArray, List.getElem_cons_succ, List.getElem_cons_zero]
      obtain ⟨gt, hgt⟩ : ∃ gt, w2.heap.size = gt := ⟨_, rfl⟩
      rw [hgt] at hT4 z2 ⊢
      exact hk.out w4 gt ⟨hT4, b4, z2⟩
    case o2 =>
      go_simp
      have b1 := below_alloc W1.drew (.cells #[.int .u8 0, .int .u8 0, .int .u8 0, .int .u8 0, .int .u8 0, .int .u8 0, .int .u8 0, .int .u8 0, .int .u8 0, .int .u8 0, .int .u8 0, .int .u8 0, .int .u8 0, .int .u8 0, .int .u8 0, .int .u8 0] 27)
      have hz : AB (W1.drew.alloc (.cells #[.int .u8 0, .int .u8 0, .int .u8 0, .int .u8 0, .int .u8 0, .int .u8 0, .int .u8 0, .int .u8 0, .int .u8 0, .int .u8 0, .int .u8 0, .int .u8 0, .int .u8 0, .int .u8 0, .int .u8 0, .int .u8 0] 27)) W1.heap.size 27 z16 := heap_alloc_new W1.drew _
      have Hm2 := Lib.hid (mark_any (W1.drew.alloc (.cells #[.int .u8 0, .int .u8 0, .int .u8 0, .int .u8 0, .int .u8 0, .int .u8 0, .int .u8 0, .int .u8 0, .int .u8 0, .int .u8 0, .int .u8 0, .int .u8 0, .int .u8 0, .int .u8 0, .int .u8 0, .int .u8 0] 27)) hkl hnl (RS.alloc HCUT.out _) (RS.alloc HQ1.out _) hnm HT.out)
      refine hK.out _ _ ⟨rng_bel rA b1 l0, rng_bel rM b1 l1⟩ (fun hHeld => ?_)
      clear hK K
      try simp only [Act.put, List.getElem_toArray, List.getElem_cons_succ, List.getElem_cons_zero, List.setIfInBounds_toArray, List.set_cons_zero, List.set_cons_succ]
      refine wpAnyH_ready (rs := [6]) (by kernel_rfl) (by simp) (AllReadyH.cons rfl (fun K hK => ?_) AllReadyH.nil)
      go_simp
      go_at_call 30
      refine Hm2.out.mono ?_
      rintro x w2 ⟨rfl, B2⟩
      have b2 := btr b1 B2
      have hz2 := hz.bl B2 hz.lt
      refine hK.out _ _ ⟨rng_bel rA b2 l0, rng_bel rM b2 l1⟩ (fun hHeld => ?_)
      clear hK K
      try simp only [Act.put, List.getElem_toArray, List.getElem_cons_succ, List.getElem_cons_zero, List.setIfInBounds_toArray, List.set_cons_zero, List.set_cons_succ]
      refine wpAnyH_ready (rs := [8]) (by kernel_rfl) (by simp) (AllReadyH.cons rfl (fun K hK => ?_) AllReadyH.nil)
      refine S_storeAB rfl _ _ _ rfl rfl rfl hz2 i16 (by simp [z16]) hTl ?_
      intro w4 hT4 hg4
      have b4 := b2.grown hg4 b2.size (fun k hk => by cases hk; exact Nat.le_refl _)
      refine hK.out _ _ ⟨rng_bel rA b4 l0, rng_bel rM b4 l1⟩ (fun hHeld => ?_)
      clear hK K
      refine wpAnyH_done (by kernel_rfl) ?_ _
      try simp only [Act.put, List.getElem_toArray, List.getElem_cons_succ, List.getElem_cons_zero]
      exact hk.out w4 W1.heap.size ⟨hT4, b4, Nat.le_refl _⟩
  case rest1 =>
    intro w4 gt hF
    clear hHeld Hmk HCUT HQ1 HT
    have b4 : Below W1.heap.size W1 w4 := below_undrew hF.bl
    have hb4 := HB.out.trans (b4.mono hbs)
    have b4s := b4.size
    have hp4 := RS.below HP.out b4 (Nat.le_refl _)
    have hT5 := hF.ab.whole (n := 16) hTl (by omega)
    obtain ⟨a5, htl, hsl2⟩ := runB_l hp4 N hNn
    obtain ⟨hcut4, hsl3⟩ := runB_h hp4 N hNn
    have r4A : w4.rangeAt w.heap.size 0 (key.map B) := rng_bel rA hF.bl l0
    have r4M : w4.rangeAt (w.heap.size + 1) 0 (nonce.map B) := rng_bel rM hF.bl l1
    have heq : ∀ k, Calls Try.prog 31 #[.slice (some ⟨gt, 0, none⟩) 16 16, .slice a5 (n - N) (c - N)] (w4.drewN k) fun e w' => e = .returned (.bool (T == p.drop N)) ∧ w' = w4.drewN k := fun k => (equal_any (w4.drewN k) hT5 htl).mono fun e w' h => ⟨h.1, h.2.symm⟩
    have HEQ := Lib.hid heq
    have HB4 := Lib.hid hb4
    have HCUT := Lib.hid hcut4
    obtain ⟨q, hq⟩ : ∃ q, (T == p.drop N) = q := ⟨_, rfl⟩
    have hO := HO.out.h
    rw [hq] at HEQ hO
    clear hF b4 hb4 hp4 hT5 htl heq HP HB HO hcut4 rA rM hq
    go_upto_region 5 with (fail)
    go_quiet (first | (go_at_call 31; with_reducible exact Calls.quiet_of_same (HEQ.out _)))
    cases q
    · rcases hO with ⟨h, _⟩ | ⟨_, rfl, rfl⟩
      · cases h
      go_wp2
      go_ret2
      exact ⟨none, 0, rfl, OW_nil _ _ _ _, below_drewN HB4.out _⟩
    · rcases hO with ⟨_, hmx, rfl⟩ | ⟨h, _⟩
      rotate_left
      · cases h
      have hdl : d.length = N := by rw [hmx.len, List.length_take]; omega
      have Hmix := Lib.hid (fun k => mix_any (w4.drewN k).drew hkl hnl (RS.drew (RS.drewN HCUT.out k)) (by omega) hmx)
      clear hmx
      go_upto_region 7 with (fail)
      refine wp_region_held_drew (S := fun w' => w'.rangeAt w.heap.size 0 (key.map B) ∧ w'.rangeAt (w.heap.size + 1) 0 (nonce.map B)) (by kernel_rfl) ⟨r4A, r4M⟩ (fun hHeld => ?_)
      refine wpAnyH_take (i := 0) rfl (by kernel_rfl) (by kernel_rfl) (by kernel_rfl) (fun _ _ _ h => h) (yieldsIf_load_mid (by rfl) _ _ rfl _ _ rfl _ _ (fun w h => h.1) hu32 rfl hs32) hHeld ?_
      try simp only [Act.put, List.getElem_toArray, List.getElem_cons_zero, List.setIfInBounds_toArray, List.set_cons_zero, List.set_cons_succ]
      refine wpAnyH_take (i := 1) rfl (by kernel_rfl) (by kernel_rfl) (by kernel_rfl) (fun _ _ _ h => h) (yieldsIf_load_mid (by rfl) _ _ rfl _ _ rfl _ _ (fun w h => h.2) hu12 rfl hs12) hHeld ?_
      try simp only [Act.put, List.getElem_toArray, List.getElem_cons_succ, List.getElem_cons_zero, List.setIfInBounds_toArray, List.set_cons_zero, List.set_cons_succ]
      refine wpAnyH_take (i := 2) (v := .slice a n c) rfl (by kernel_rfl) (by kernel_rfl) (by kernel_rfl) (fun _ _ _ h => h) (Or.inl ⟨by rfl, fun w h => by go_simp⟩) hHeld ?_
      try simp only [Act.put, List.getElem_toArray, List.getElem_cons_succ, List.getElem_cons_zero, List.setIfInBounds_toArray, List.set_cons_zero, List.set_cons_succ]
      refine wpAnyH_take (i := 3) (v := .int .i64 (N : Int)) rfl (by kernel_rfl) (by kernel_rfl) (by kernel_rfl) (fun _ _ _ h => h) (Or.inl ⟨by rfl, fun w h => by go_simp⟩) hHeld ?_
      try simp only [Act.put, List.getElem_toArray, List.getElem_cons_succ, List.getElem_cons_zero, List.setIfInBounds_toArray, List.set_cons_zero, List.set_cons_succ]
      refine wpAnyH_take (i := 4) (v := .slice a N c) rfl (by kernel_rfl) (by kernel_rfl) (by kernel_rfl) (fun _ _ _ h => h) (Or.inl ⟨by rfl, fun w h => by go_simp⟩) hHeld ?_
      try simp only [Act.put, List.getElem_toArray, List.getElem_cons_succ, List.getElem_cons_zero, List.setIfInBounds_toArray, List.set_cons_zero, List.set_cons_succ]
      refine wpAnyH_ready (rs := [5]) (by kernel_rfl) (by simp) (AllReadyH.cons rfl (fun K hK => ?_) AllReadyH.nil)
      go_simp
      go_at_call 29
      refine (Hmix.out _).mono ?_
      rintro x w6 ⟨a6, c6, rfl, o6, B6⟩
      have hb5 := fun k => (below_drewN HB4.out k).drew
      have hb6 := (hb5 _).trans (B6.mono (hb5 _).size)
      refine hK.out _ _ ⟨rng_bel (by exact r4A) B6 (Nat.lt_of_lt_of_le l0 b4s), rng_bel (by exact r4M) B6 (Nat.lt_of_lt_of_le l1 b4s)⟩ (fun hHeld => ?_)
      clear hK K
      try simp only [Act.put, List.getElem_toArray, List.getElem_cons_succ, List.getElem_cons_zero, List.setIfInBounds_toArray, List.set_cons_zero, List.set_cons_succ]
      refine wpAnyH_take (i := 6) (v := .slice a6 N c6) rfl (by kernel_rfl) (by kernel_rfl) (by kernel_rfl) (fun _ _ _ h => h) (Or.inl ⟨by rfl, fun w h => by go_simp⟩) hHeld ?_
      try simp only [Act.put, List.getElem_toArray, List.getElem_cons_succ, List.getElem_cons_zero, List.setIfInBounds_toArray, List.set_cons_zero, List.set_cons_succ]
      refine wpAnyH_take (i := 7) (v := .int .i64 0) rfl (by kernel_rfl) (by kernel_rfl) (by kernel_rfl) (fun _ _ _ h => h) (Or.inl ⟨by rfl, fun w h => by go_simp⟩) hHeld ?_
      try simp only [Act.put, List.getElem_toArray, List.getElem_cons_succ, List.getElem_cons_zero, List.setIfInBounds_toArray, List.set_cons_zero, List.set_cons_succ]
      refine wpAnyH_done (by kernel_rfl) ?_ _
      try simp only [Act.put, List.getElem_toArray, List.getElem_cons_succ, List.getElem_cons_zero]
      go_wp2
      go_ret2
      refine ⟨a6, c6, ?_, ?_, hb6⟩
      · rfl
      · exact o6.mono (hb5 0).size
end Go.Proofs.Ytlncnjcbgfeaoaa
