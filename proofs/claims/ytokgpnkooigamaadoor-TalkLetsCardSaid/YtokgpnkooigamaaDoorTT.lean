/- talk: over. -/
import Derived.Test.YtokgpnkooigamaaDoorTS
set_option maxRecDepth 100000
set_option linter.unusedVariables false
namespace Go.Proofs.YtokgpnkooigamaaDoor
open Go.RowKit
def ML0 : ML := ⟨SA0, SA0, SA0⟩
/-- a message of its kind, a number and a version -/
def mNV (k n v : Nat) : MG := ⟨k, 0, 0, [], 0, 0, 0, 0, 0, 0, false, 0, [], n, v, []⟩
theorem mo_NV (w : World) (base k n v : Nat) (hk : k < 18446744073709551616) (hn : n < 18446744073709551616) (hv : v < 18446744073709551616) : MO w base (mNV k n v) ML0 :=
  ⟨⟨hk, by simp [mNV], by simp [mNV], by simp [mNV], by simp [mNV], by simp [mNV], by simp [mNV], by simp [mNV], by simp [mNV], by simp [mNV], hn, hv⟩, OW_nil _ _ _ _, OW_nil _ _ _ _, OW_nil _ _ _ _, by simp [ML0, SA0], by simp [ML0, SA0], by simp [ML0, SA0]⟩
/-- one of the other side's requests is over -/
def overS (S : SS) (i : Nat) : SS := match S.their[i]? with
  | none => S
  | some x => if x.st = 3 then S else if S.tl < 1152921504606846976 then { S with their := S.their.set i ⟨x.m, 3⟩, tl := S.tl + 1, out := S.out ++ [mNV 21 (S.tl + 1) 0] } else { S with their := S.their.set i ⟨x.m, 3⟩ }
section
variable {w : World} {base g : Nat} {S : SS} {A : SL}
def P60 : Nat := 1152921504606846976
set_option maxHeartbeats 4000000 in
theorem over_any (h : SZ w base g S A) {i : Nat} {x : AG} (hx : S.their[i]? = some x) {b : Nat} (hb : A.th.a = some ⟨b, 0, none⟩) (ho : S.out.length ≤ 1048576) (hB : base ≤ w.heap.size) :
    Calls Tryd.prog 30 #[.pointer (some ⟨g, 0, none⟩), .pointer (some ⟨b, i * 17, none⟩)] w fun e w' => e = .returned (.tuple #[]) ∧ ∃ A', SZ w' base g (overS S i) A' ∧ SK w g A w' A' := by
  obtain ⟨l, hl⟩ := h.th.loc hx
  have hrg := h.th.rng hx hl hb
  have c16 : w.cell? ⟨b, i * 17 + 16, none⟩ = some (.int .i64 (x.st : Int)) := hrg 16 _ rfl
  have hrow := h.th.row
  rw [hb] at hrow
  have f16 := hrow.frz (i * 17 + 16)
  have c4 : w.cell? ⟨g, 4, none⟩ = some (.int .u64 (S.tl : Int)) := h.row.at_ 4
  have hbg : b ≠ g := (FP.ne h).2.1 _ hb
  have h1 := h.st_th hx hb 3
  have hS : overS S i = if x.st = 3 then S else if S.tl < 1152921504606846976 then { S with their := S.their.set i ⟨x.m, 3⟩, tl := S.tl + 1, out := S.out ++ [mNV 21 (S.tl + 1) 0] } else { S with their := S.their.set i ⟨x.m, 3⟩ } := by unfold overS; rw [hx]
  rw [hS]
  clear hS
  obtain ⟨J, hJ⟩ : ∃ J, i * 17 = J := ⟨_, rfl⟩
  rw [hJ] at c16 f16 h1 ⊢
  have H := Lib.hid h
  have H1 := Lib.hid h1
  clear hrg hrow hl h1 h hx hb hJ
  by_cases h3 : x.st = 3
  · have q : ((x.st : Int) == 3) = true := by simp; omega
    rw [if_pos h3]
    clear h3
    go_enter Tryd.func30, Tryd.ntmps30
    go_wp2
    refine bodyPost_ret (results_none rfl _ _ _) rfl ?_
    exact ⟨rfl, A, H.out, SK.refl _ _ _⟩
  · have q : ((x.st : Int) == 3) = false := by simp; omega
    rw [if_neg h3]
    clear h3
    by_cases ht : S.tl < 1152921504606846976
    · rw [if_pos ht]
      have q2 : decide ((S.tl : Int) < 1152921504606846976) = true := decide_eq_true (by omega)
      have hwr : IntKind.u64.wrap ((S.tl : Int) + 1) = (S.tl : Int) + 1 := IntWalk.u64_in _ (by omega)
      have h2 := H1.out.1.set_tl (S.tl + 1)
      have f4 := H.out.row.fr 4
      have d4 : (w.setCell ⟨b, J + 16, none⟩ (.int .i64 3)).cell? ⟨g, 4, none⟩ = some (.int .u64 (S.tl : Int)) := H1.out.1.row.at_ 4
      obtain ⟨W1, hW1⟩ : ∃ x, w.setCell ⟨b, J + 16, none⟩ (.int .i64 3) = x := ⟨_, rfl⟩
      have H2 := Lib.hid (show SZ ((w.setCell ⟨b, J + 16, none⟩ (.int .i64 3)).setCell ⟨g, 4, none⟩ (.int .u64 ((S.tl : Int) + 1))) base g { S with their := S.their.set i ⟨x.m, 3⟩, tl := S.tl + 1 } A ∧ SK w g A ((w.setCell ⟨b, J + 16, none⟩ (.int .i64 3)).setCell ⟨g, 4, none⟩ (.int .u64 ((S.tl : Int) + 1))) A from ⟨by have := h2.1; unfold u64 at this; rw [show ((S.tl + 1 : Nat) : Int) = (S.tl : Int) + 1 by omega] at this; exact this, H1.out.2.trans (by have := h2.2; unfold u64 at this; rw [show ((S.tl + 1 : Nat) : Int) = (S.tl : Int) + 1 by omega] at this; exact this)⟩)
      have HT := Lib.hid ht
      clear h2 hW1 ht
      go_enter Tryd.func30, Tryd.ntmps30
      go_upto_region 4 with (fail)
      have hz2 := H2.out.1
      have bz2 : SZ ((w.setCell ⟨b, J + 16, none⟩ (.int .i64 3)).setCell ⟨g, 4, none⟩ (.int .u64 ((S.tl : Int) + 1))).drew base g { S with their := S.their.set i ⟨x.m, 3⟩, tl := S.tl + 1 } A := hz2.drew
      have hsk := H2.out.2.trans (SK.bel (w := (w.setCell ⟨b, J + 16, none⟩ (.int .i64 3)).setCell ⟨g, 4, none⟩ (.int .u64 ((S.tl : Int) + 1))) (g := g) (A := A) (Below.refl _ _).drew)
      obtain ⟨V, hV⟩ : ∃ x, ((w.setCell ⟨b, J + 16, none⟩ (.int .i64 3)).setCell ⟨g, 4, none⟩ (.int .u64 ((S.tl : Int) + 1))).drew = x := ⟨_, rfl⟩
      rw [hV] at bz2 hsk
      have d5 : ((w.setCell ⟨b, J + 16, none⟩ (.int .i64 3)).setCell ⟨g, 4, none⟩ (.int .u64 ((S.tl : Int) + 1))).cell? ⟨g, 5, none⟩ = some (.slice A.ou.a A.ou.n A.ou.c) := hz2.row.at_ 5
      have e4 : ((w.setCell ⟨b, J + 16, none⟩ (.int .i64 3)).setCell ⟨g, 4, none⟩ (.int .u64 ((S.tl : Int) + 1))).cell? ⟨g, 4, none⟩ = some (.int .u64 ((S.tl : Int) + 1)) := by
        have := hz2.row.at_ 4
        rw [this]; unfold u64; simp
      have HZV := Lib.hid bz2
      have HSK := Lib.hid hsk
      have H45 := Lib.hid (⟨d5, e4⟩ : ((w.setCell ⟨b, J + 16, none⟩ (.int .i64 3)).setCell ⟨g, 4, none⟩ (.int .u64 ((S.tl : Int) + 1))).cell? ⟨g, 5, none⟩ = some (.slice A.ou.a A.ou.n A.ou.c) ∧ ((w.setCell ⟨b, J + 16, none⟩ (.int .i64 3)).setCell ⟨g, 4, none⟩ (.int .u64 ((S.tl : Int) + 1))).cell? ⟨g, 4, none⟩ = some (.int .u64 ((S.tl : Int) + 1)))
      have HBV := Lib.hid (Nat.le_trans hB (hsk.size))
      have hlen := bz2.ou.n
      simp only at hlen
      clear hz2 bz2 hsk d5 e4 d4 f4 c4 c16 f16 H1 H2 H hwr q q2
      refine wp_region_U 15 (S := fun y => y.cell? ⟨g, 5, none⟩ = some (.slice A.ou.a A.ou.n A.ou.c) ∧ y.cell? ⟨g, 4, none⟩ = some (.int .u64 ((S.tl : Int) + 1))) (by kernel_rfl) H45.out (fun hHeld => ?_)
      rw [hV] at hHeld ⊢
      clear H45 hV
      refine wpAnyU_take (i := 0) (v := .pointer (some ⟨g, 0, none⟩)) rfl (by kernel_rfl) (by kernel_rfl) (by kernel_rfl) (by kernel_rfl) rfl (by kernel_rfl) (fun _ _ _ h => h) (Or.inl ⟨by rfl, fun w h => by go_simp⟩) hHeld ?_
      try simp only [Act.put, List.getElem_toArray, List.getElem_cons_zero, List.setIfInBounds_toArray, List.set_cons_zero, List.set_cons_succ]
      refine wpAnyU_take (i := 1) (v := .pointer (some ⟨g, 0, none⟩)) rfl (by kernel_rfl) (by kernel_rfl) (by kernel_rfl) (by kernel_rfl) rfl (by kernel_rfl) (fun _ _ _ h => h) (Or.inl ⟨by rfl, fun w h => by go_simp⟩) hHeld ?_
      try simp only [Act.put, List.getElem_toArray, List.getElem_cons_succ, List.getElem_cons_zero, List.setIfInBounds_toArray, List.set_cons_zero, List.set_cons_succ]
      refine wpAnyU_take (i := 2) (v := .pointer (some ⟨g, 0, none⟩)) rfl (by kernel_rfl) (by kernel_rfl) (by kernel_rfl) (by kernel_rfl) rfl (by kernel_rfl) (fun _ _ _ h => h) (Or.inl ⟨by rfl, fun w h => by go_simp⟩) hHeld ?_
      try simp only [Act.put, List.getElem_toArray, List.getElem_cons_succ, List.getElem_cons_zero, List.setIfInBounds_toArray, List.set_cons_zero, List.set_cons_succ]
      refine wpAnyU_take (i := 3) (v := .pointer (some ⟨g, 5, none⟩)) rfl (by kernel_rfl) (by kernel_rfl) (by kernel_rfl) (by kernel_rfl) rfl (by kernel_rfl) (fun _ _ _ h => h) (Or.inl ⟨by rfl, fun w h => by go_simp⟩) hHeld ?_
      try simp only [Act.put, List.getElem_toArray, List.getElem_cons_succ, List.getElem_cons_zero, List.setIfInBounds_toArray, List.set_cons_zero, List.set_cons_succ]
      refine wpAnyU_take (i := 4) (v := .slice A.ou.a A.ou.n A.ou.c) rfl (by kernel_rfl) (by kernel_rfl) (by kernel_rfl) (by kernel_rfl) rfl (by kernel_rfl) (fun _ _ _ h => h) (Or.inl ⟨by rfl, fun w h => by go_simp⟩) hHeld ?_
      try simp only [Act.put, List.getElem_toArray, List.getElem_cons_succ, List.getElem_cons_zero, List.setIfInBounds_toArray, List.set_cons_zero, List.set_cons_succ]
      refine wpAnyU_take (i := 5) (v := .pointer (some ⟨g, 0, none⟩)) rfl (by kernel_rfl) (by kernel_rfl) (by kernel_rfl) (by kernel_rfl) rfl (by kernel_rfl) (fun _ _ _ h => h) (Or.inl ⟨by rfl, fun w h => by go_simp⟩) hHeld ?_
      try simp only [Act.put, List.getElem_toArray, List.getElem_cons_succ, List.getElem_cons_zero, List.setIfInBounds_toArray, List.set_cons_zero, List.set_cons_succ]
      refine wpAnyU_take (i := 6) (v := .pointer (some ⟨g, 0, none⟩)) rfl (by kernel_rfl) (by kernel_rfl) (by kernel_rfl) (by kernel_rfl) rfl (by kernel_rfl) (fun _ _ _ h => h) (Or.inl ⟨by rfl, fun w h => by go_simp⟩) hHeld ?_
      try simp only [Act.put, List.getElem_toArray, List.getElem_cons_succ, List.getElem_cons_zero, List.setIfInBounds_toArray, List.set_cons_zero, List.set_cons_succ]
      refine wpAnyU_take (i := 7) (v := .pointer (some ⟨g, 3, none⟩)) rfl (by kernel_rfl) (by kernel_rfl) (by kernel_rfl) (by kernel_rfl) rfl (by kernel_rfl) (fun _ _ _ h => h) (Or.inl ⟨by rfl, fun w h => by go_simp⟩) hHeld ?_
      try simp only [Act.put, List.getElem_toArray, List.getElem_cons_succ, List.getElem_cons_zero, List.setIfInBounds_toArray, List.set_cons_zero, List.set_cons_succ]
      refine wpAnyU_take (i := 8) (v := .pointer (some ⟨g, 4, none⟩)) rfl (by kernel_rfl) (by kernel_rfl) (by kernel_rfl) (by kernel_rfl) rfl (by kernel_rfl) (fun _ _ _ h => h) (Or.inl ⟨by rfl, fun w h => by go_simp⟩) hHeld ?_
      try simp only [Act.put, List.getElem_toArray, List.getElem_cons_succ, List.getElem_cons_zero, List.setIfInBounds_toArray, List.set_cons_zero, List.set_cons_succ]
      refine wpAnyU_take (i := 9) (v := .int .u64 ((S.tl : Int) + 1)) rfl (by kernel_rfl) (by kernel_rfl) (by kernel_rfl) (by kernel_rfl) rfl (by kernel_rfl) (fun _ _ _ h => h) (Or.inl ⟨by rfl, fun w h => by go_simp⟩) hHeld ?_
      try simp only [Act.put, List.getElem_toArray, List.getElem_cons_succ, List.getElem_cons_zero, List.setIfInBounds_toArray, List.set_cons_zero, List.set_cons_succ]
      refine wpAnyU_take (i := 10) (v := .agg #[.int .u64 21, .int .u64 0, .int .u64 0, .slice none 0 0, .int .u8 0, .int .u8 0, .int .u64 0, .int .u64 0, .int .u64 0, .int .u64 0, .bool false, .int .u64 0, .slice none 0 0, .int .u64 ((S.tl : Int) + 1), .int .u64 0, .slice none 0 0]) rfl (by kernel_rfl) (by kernel_rfl) (by kernel_rfl) (by kernel_rfl) rfl (by kernel_rfl) (fun _ _ _ h => h) (Or.inl ⟨by rfl, fun w h => by go_simp⟩) hHeld ?_
      try simp only [Act.put, List.getElem_toArray, List.getElem_cons_succ, List.getElem_cons_zero, List.setIfInBounds_toArray, List.set_cons_zero, List.set_cons_succ]
      refine wpAnyU_ready (rs := [11]) (by kernel_rfl) (by simp) (AllReadyU.cons rfl (fun K hK => ?_) AllReadyU.nil)
      go_simp
      have hmc : mgc (mNV 21 (S.tl + 1) 0) ML0 = [.int .u64 21, .int .u64 0, .int .u64 0, .slice none 0 0, .int .u8 0, .int .u8 0, .int .u64 0, .int .u64 0, .int .u64 0, .int .u64 0, .bool false, .int .u64 0, .slice none 0 0, .int .u64 ((S.tl : Int) + 1), .int .u64 0, .slice none 0 0] := by
        simp [mgc, mNV, ML0, SA0, SA.v, u64]
      have hrs := (OW_made V 0 31 16 (mgc (mNV 21 (S.tl + 1) 0) ML0).toArray 1 (Nat.zero_le _) rfl (by unfold maxLen; omega) (by simpa using mgc_one (mNV 21 (S.tl + 1) 0) ML0)).rs
      have hz3 := HZV.out.bel (below_alloc V (.cells (mgc (mNV 21 (S.tl + 1) 0) ML0).toArray 31))
      rw [hmc] at hrs hz3
      have HRS := Lib.hid hrs
      have HZ3 := Lib.hid hz3
      have HMC := Lib.hid hmc
      refine hK.out _ _ ⟨hz3.row.at_ 5, by rw [hz3.row.at_ 4]; unfold u64; simp⟩ (fun hHeld => ?_)
      clear hK K hrs hz3 hmc
      try simp only [Act.put, List.getElem_toArray, List.getElem_cons_succ, List.getElem_cons_zero, List.setIfInBounds_toArray, List.set_cons_zero, List.set_cons_succ]
      have hB3 : base ≤ (V.alloc (.cells (mgc (mNV 21 (S.tl + 1) 0) ML0).toArray 31)).heap.size := Nat.le_trans HBV.out (by simp)
      have hsk3 := HSK.out.trans (SK.bel (g := g) (A := A) (below_alloc V (.cells (mgc (mNV 21 (S.tl + 1) 0) ML0).toArray 31)))
      rw [HMC.out] at hB3 hsk3
      have HSK3 := Lib.hid hsk3
      have HT2 := Lib.hid HT.out
      clear hsk3
      generalize (World.alloc _ _) = w3 at *
      refine wpAnyU_ready (rs := [12]) (by kernel_rfl) (by simp) (AllReadyU.cons rfl (fun K hK => ?_) AllReadyU.nil)
      refine S_append_atZ tQ HZ3.out.ou.row HRS.out _ _ rfl rfl rfl rfl (by omega) (by unfold maxLen; omega) hB3 ?_
      intro a2 c2 w4 o4 g4 d4
      have hap := HZ3.out.app_out (mo_NV w3 base 21 (S.tl + 1) 0 (by omega) (by have := HT2.out; omega) (by omega)) (by rw [HMC.out]; exact o4) g4 d4
      have qf := hap.1.fr 5
      have HA := Lib.hid hap
      have e4 : w4.cell? ⟨g, 4, none⟩ = some (.int .u64 ((S.tl : Int) + 1)) := by
        have := hap.1.at_ 4
        rw [this]; unfold srow u64; simp
      refine hK.out _ _ ⟨HA.out.1.at_ 5, e4⟩ (fun hHeld => ?_)
      clear hK K hap e4 o4 g4 d4
      try simp only [Act.put, List.getElem_toArray, List.getElem_cons_succ, List.getElem_cons_zero, List.setIfInBounds_toArray, List.set_cons_zero, List.set_cons_succ]
      refine wpAnyU_ready (rs := [13]) (by kernel_rfl) (by simp) (AllReadyU.cons rfl (fun K hK => ?_) AllReadyU.nil)
      go_simp
      refine hK.out _ _ hHeld (fun hHeld => ?_)
      clear hK K
      try simp only [Act.put, List.getElem_toArray, List.getElem_cons_succ, List.getElem_cons_zero, List.setIfInBounds_toArray, List.set_cons_zero, List.set_cons_succ]
      refine wpAnyU_ready (rs := [14]) (by kernel_rfl) (by simp) (AllReadyU.cons rfl (fun K hK => ?_) AllReadyU.nil)
      go_simp
      refine hK.out _ _ hHeld (fun hHeld => ?_)
      clear hK K
      try simp only [Act.put, List.getElem_toArray, List.getElem_cons_succ, List.getElem_cons_zero, List.setIfInBounds_toArray, List.set_cons_zero, List.set_cons_succ]
      have d5 := hHeld.1
      refine wpAnyU_ready (rs := [15]) (by kernel_rfl) (by simp) (AllReadyU.consT rfl (by kernel_rfl) (fun K hK => ?_) AllReadyU.nil)
      go_simp
      refine hK.out _ _ ?_
      clear hK K
      try simp only [Act.put, List.getElem_toArray, List.getElem_cons_succ, List.getElem_cons_zero, List.setIfInBounds_toArray, List.set_cons_zero, List.set_cons_succ]
      refine wpAnyU_done (by kernel_rfl) ?_ _
      try simp only [Act.put, List.getElem_toArray, List.getElem_cons_succ, List.getElem_cons_zero]
      go_wp2
      go_end0
      exact ⟨rfl, _, HA.out.2.1, HSK3.out.trans HA.out.2.2⟩
    · rw [if_neg ht]
      have q2 : decide ((S.tl : Int) < 1152921504606846976) = false := decide_eq_false (by omega)
      have d4 : (w.setCell ⟨b, J + 16, none⟩ (.int .i64 3)).cell? ⟨g, 4, none⟩ = some (.int .u64 (S.tl : Int)) := H1.out.1.row.at_ 4
      clear ht
      go_enter Tryd.func30, Tryd.ntmps30
      go_wp2
      go_end0
      exact ⟨rfl, A, H1.out⟩
end
end Go.Proofs.YtokgpnkooigamaaDoor
