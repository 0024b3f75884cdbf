/- word's pen: fields' walk. -/
import Derived.Test.YtokgpnkooigamaaDoorTK
import Derived.Test.YtokgpnkooigamaaDoorM3
set_option maxRecDepth 100000
set_option linter.unusedVariables false
namespace Go.Proofs.YtokgpnkooigamaaDoor
open Go.RowKit
set_option maxHeartbeats 8000000 in
theorem fields_any (w : World) {wB : World} {g n c : Nat} {a : Option Addr} (k0 : Nat) (m : MG) (s : ML) (p : Int) (hp : PN wB.heap.size w g n a c) (hn : n ≤ 0) (hb : Below wB.heap.size wB w) (hm : MR wB m s) (hF : FBd m s) (hk0 : CR w k0 31 (mgc m s)) (hkg : k0 ≠ g) :
    Calls Tryd.prog 47 #[.pointer (some ⟨g, 0, none⟩), .agg (mgc m s).toArray, .int .i64 p] w fun e w' => e = .returned (.tuple #[]) ∧ ∃ j, FD wB g [j, k0] m s 4000 w' := by
  have hb0 := below_alloc w (.cells (mgc m s).toArray 31)
  have hR := CR.new w 31 (mgc m s)
  have hgl := hp.row.lt
  have hfd : FD wB g [w.heap.size, k0] m s 0 (w.alloc (.cells (mgc m s).toArray 31)) := ⟨⟨n, a, c, hp.bel hb0, hn⟩, fun j hj => by
    simp at hj
    rcases hj with rfl | rfl
    · exact ⟨hR, by omega⟩
    · exact ⟨hk0.bel hb0, hkg⟩, below_then hb hb0 hb.size⟩
  obtain ⟨w1, hw1⟩ : ∃ x, w.alloc (.cells (mgc m s).toArray 31) = x := ⟨_, rfl⟩
  obtain ⟨k, hk⟩ : ∃ k, w.heap.size = k := ⟨_, rfl⟩
  rw [hw1, hk] at hfd
  have HF := Lib.hid hF
  have HM := Lib.hid hm
  have H0 := Lib.hid hfd
  have l1 := hF.l1
  have l2 := hF.l2
  have l3 := hF.l3
  clear hfd hR hb0 hgl hp hn hb hm hF hk0 hkg
  unfold mgc u64 SA.v at hw1 ⊢
  go_enter Tryd.func47, Tryd.ntmps47
  go_upto_if 9 with (fail)
  go_cut [6] (fun s6 wx => FD wB g [k, k0] m s 808 wx)
  case first => as_aux_lemma =>
    have c15 : w1.cell? ⟨k, 15, none⟩ = some (.slice s.vs.a s.vs.n s.vs.c) := (H0.out.box k (by simp)).1.at_ 15
    have HN := Lib.hid (fd_num1 w1 H0.out s.vs.n (by omega) (by omega))
    have HN2 := Lib.hid (fun (w2 : World) (h : FD wB g [k, k0] m s (0 + 8) w2) => fd_numV w2 h HM.out HF.out.vers (by omega))
    go_wp2_with (first
      | (go_at_call 58; (with_reducible refine HN.out.mono ?_); rintro y w2 ⟨rfl, hfd⟩; have Hfd := Lib.hid hfd; have c15 : w2.cell? ⟨k, 15, none⟩ = some (.slice s.vs.a s.vs.n s.vs.c) := (hfd.box k (by simp)).1.at_ 15; clear hfd)
      | (go_at_call 58; (with_reducible refine (HN2.out w2 Hfd.out).mono ?_); rintro y w3 ⟨rfl, hfd3⟩))
    all_goals (go_meet; first | exact hfd3.mono (by omega) | exact H0.out.mono (by omega))
  case rest =>
  have H1 := Lib.hid hcut
  clear hcut H0
  obtain ⟨W1, hWW⟩ : ∃ x, x = wc := ⟨_, rfl⟩
  subst hWW
  go_upto_if 23 with (fail)
  go_cut [6] (fun s6 wx => FD wB g [k, k0] m s 816 wx)
  case first => as_aux_lemma =>
    have c14 : W1.cell? ⟨k, 14, none⟩ = some (.int .u64 (m.ver : Int)) := (H1.out.box k (by simp)).1.at_ 14
    have HN := Lib.hid (fd_num1 W1 H1.out m.ver HF.out.ver (by omega))
    go_wp2_with (go_at_call 58; refine HN.out.mono ?_; rintro y w2 ⟨rfl, hfd⟩)
    all_goals (go_meet; first | exact hfd | exact H1.out.mono (by omega))
  case rest =>
  have H2 := Lib.hid hcut
  clear hcut H1
  obtain ⟨W2, hWW⟩ : ∃ x, x = wc := ⟨_, rfl⟩
  subst hWW
  go_upto_if 31 with (fail)
  go_cut [6] (fun s6 wx => FD wB g [k, k0] m s 824 wx)
  case first => as_aux_lemma =>
    have c1 : W2.cell? ⟨k, 1, none⟩ = some (.int .u64 (m.id : Int)) := (H2.out.box k (by simp)).1.at_ 1
    have HN := Lib.hid (fd_num1 W2 H2.out m.id HF.out.id (by omega))
    go_wp2_with (go_at_call 58; refine HN.out.mono ?_; rintro y w2 ⟨rfl, hfd⟩)
    all_goals (go_meet; first | exact hfd | exact H2.out.mono (by omega))
  case rest =>
  have H3 := Lib.hid hcut
  clear hcut H2
  obtain ⟨W3, hWW⟩ : ∃ x, x = wc := ⟨_, rfl⟩
  subst hWW
  go_upto_if 39 with (fail)
  go_cut [6] (fun s6 wx => FD wB g [k, k0] m s 832 wx)
  case first => as_aux_lemma =>
    have c2 : W3.cell? ⟨k, 2, none⟩ = some (.int .u64 (m.alias : Int)) := (H3.out.box k (by simp)).1.at_ 2
    have HN := Lib.hid (fd_num1 W3 H3.out m.alias HF.out.alias (by omega))
    go_wp2_with (go_at_call 58; refine HN.out.mono ?_; rintro y w2 ⟨rfl, hfd⟩)
    all_goals (go_meet; first | exact hfd | exact H3.out.mono (by omega))
  case rest =>
  have H4 := Lib.hid hcut
  clear hcut H3
  obtain ⟨W4, hWW⟩ : ∃ x, x = wc := ⟨_, rfl⟩
  subst hWW
  go_upto_if 47 with (fail)
  go_cut [6] (fun s6 wx => FD wB g [k, k0] m s 934 wx)
  case first => as_aux_lemma =>
    refine wp_cond_split rfl (fun h => ?c4a) (fun h => ?c4b)
    case c4b =>
      go_wp2
      go_meet
      exact H4.out.mono (by omega)
    case c4a =>
      clear h
      go_upto_region 11 with (fail)
      obtain ⟨V, hV⟩ : ∃ V, W4.drew = V := ⟨_, rfl⟩
      have hfV : FD wB g [k, k0] m s 832 V := by rw [← hV]; exact H4.out.drew
      obtain ⟨⟨n1, a1, c1, hP, hN1⟩, hbx, hbl⟩ := hfV
      obtain ⟨vs, ho⟩ := hP.ow
      have hk3 : W4.cell? ⟨k, 3, none⟩ = some (.slice s.nm.a s.nm.n s.nm.c) := (H4.out.box k (by simp)).1.at_ 3
      have hnm := HM.out.nm.below hbl (Nat.le_refl _)
      have HNM := Lib.hid hnm
      have HP := Lib.hid hP
      have HO := Lib.hid ho
      have HBX := Lib.hid hbx
      have HBL := Lib.hid hbl
      have HK3 := Lib.hid hk3
      clear hP ho hbx hbl hk3 hnm
      refine wp_region_held_drew (S := fun w' => w'.cell? ⟨k, 3, none⟩ = some (.slice s.nm.a s.nm.n s.nm.c)) (by kernel_rfl) HK3.out (fun hHeld => ?_)
      rw [hV] at hHeld ⊢
      refine wpAnyH_take (i := 0) (v := .pointer (some ⟨g, 0, none⟩)) rfl (by kernel_rfl) (by kernel_rfl) (by kernel_rfl) (fun _ _ _ h => h) (Or.inl ⟨by rfl, fun w h => by go_simp⟩) hHeld ?_
      try simp only [Act.put, List.getElem_toArray, List.getElem_cons_zero, List.setIfInBounds_toArray, List.set_cons_zero, List.set_cons_succ]
      refine wpAnyH_take (i := 1) (v := .pointer (some ⟨g, 0, none⟩)) rfl (by kernel_rfl) (by kernel_rfl) (by kernel_rfl) (fun _ _ _ h => h) (Or.inl ⟨by rfl, fun w h => by go_simp⟩) hHeld ?_
      try simp only [Act.put, List.getElem_toArray, List.getElem_cons_succ, List.getElem_cons_zero, List.setIfInBounds_toArray, List.set_cons_zero, List.set_cons_succ]
      refine wpAnyH_take (i := 2) (v := .pointer (some ⟨g, 0, none⟩)) rfl (by kernel_rfl) (by kernel_rfl) (by kernel_rfl) (fun _ _ _ h => h) (Or.inl ⟨by rfl, fun w h => by go_simp⟩) hHeld ?_
      try simp only [Act.put, List.getElem_toArray, List.getElem_cons_succ, List.getElem_cons_zero, List.setIfInBounds_toArray, List.set_cons_zero, List.set_cons_succ]
      refine wpAnyH_take (i := 3) (v := .pointer (some ⟨g, 0, none⟩)) rfl (by kernel_rfl) (by kernel_rfl) (by kernel_rfl) (fun _ _ _ h => h) (Or.inl ⟨by rfl, fun w h => by go_simp⟩) hHeld ?_
      try simp only [Act.put, List.getElem_toArray, List.getElem_cons_succ, List.getElem_cons_zero, List.setIfInBounds_toArray, List.set_cons_zero, List.set_cons_succ]
      refine wpAnyH_take (i := 5) (v := .pointer (some ⟨k, 3, none⟩)) rfl (by kernel_rfl) (by kernel_rfl) (by kernel_rfl) (fun _ _ _ h => h) (Or.inl ⟨by rfl, fun w h => by go_simp⟩) hHeld ?_
      try simp only [Act.put, List.getElem_toArray, List.getElem_cons_succ, List.getElem_cons_zero, List.setIfInBounds_toArray, List.set_cons_zero, List.set_cons_succ]
      refine wpAnyH_take (i := 6) (v := .slice s.nm.a s.nm.n s.nm.c) rfl (by kernel_rfl) (by kernel_rfl) (by kernel_rfl) (fun _ _ _ h => h) (Or.inl ⟨by rfl, fun w h => by go_simp⟩) hHeld ?_
      try simp only [Act.put, List.getElem_toArray, List.getElem_cons_succ, List.getElem_cons_zero, List.setIfInBounds_toArray, List.set_cons_zero, List.set_cons_succ]
      refine wpAnyH_ready (rs := [4, 7]) (by kernel_rfl) (by simp) (AllReadyH.cons rfl (fun K hK => ?q4a) (AllReadyH.cons rfl (fun K hK => ?q4b) AllReadyH.nil))
      case q4a =>
        have q : V.cell? ⟨g, 0, none⟩ = some (.slice a1 n1 c1) := HP.out.row.at_ 0
        go_simp
        refine hK.out _ _ hHeld (fun hHeld => ?_)
        clear hK K q
        try simp only [Act.put, List.getElem_toArray, List.getElem_cons_succ, List.getElem_cons_zero, List.setIfInBounds_toArray, List.set_cons_zero, List.set_cons_succ]
        refine wpAnyH_ready (rs := [7]) (by kernel_rfl) (by simp) (AllReadyH.cons rfl (fun K hK => ?_) AllReadyH.nil)
        go_simp
        go_at_call 59
        refine (vtext_any _ HNM.out (by omega)).mono ?_
        rintro x w2 ⟨a2, c2, rfl, o2, B2⟩
        have HX := Lib.hid o2.rs
        have hvz := vsz_bd s.nm.n
        obtain ⟨z2, hz2⟩ : ∃ z, vsz s.nm.n + s.nm.n = z := ⟨_, rfl⟩
        have hz2b : z2 ≤ 102 := by omega
        rw [hz2] at HX ⊢
        clear hz2 hvz
        refine hK.out _ _ (((HBX.out k (by simp)).1.bel B2).at_ 3) (fun hHeld => ?_)
        clear hK K
        try simp only [Act.put, List.getElem_toArray, List.getElem_cons_succ, List.getElem_cons_zero, List.setIfInBounds_toArray, List.set_cons_zero, List.set_cons_succ]
        have HO2 := Lib.hid (HO.out.below B2 (Nat.le_refl _))
        have HP2 := Lib.hid (HP.out.bel B2)
        have HBL2 := Lib.hid (below_then HBL.out B2 HBL.out.size)
        have HBX2 := Lib.hid (fun j hj => (⟨(HBX.out j hj).1.bel B2, (HBX.out j hj).2⟩ : CR w2 j 31 (mgc m s) ∧ j ≠ g))
        have hsz2 := HBL2.out.size
        clear B2
        refine wpAnyH_ready (rs := [8]) (by kernel_rfl) (by simp) (AllReadyH.cons rfl (fun K hK => ?_) AllReadyH.nil)
        refine S_append tB HO2.out HX.out _ _ rfl rfl rfl rfl (by omega) (by unfold maxLen; omega) hsz2 ?_
        intro a3 c3 w3 o3 g3
        have hap := FD.app HP2.out HO2.out HBX2.out HBL2.out o3 g3 ⟨vs ++ textS _, by rw [List.map_append]⟩ (N := 934) (by omega)
        have q : w3.cell? ⟨g, 0, none⟩ = some (.slice a1 n1 c1) := hap.1.at_ 0
        have qf := hap.1.fr 0
        have HA := Lib.hid hap
        clear hap o3 g3
        refine hK.out _ _ ((HA.out.2.2 k (by simp)).at_ 3) (fun hHeld => ?_)
        clear hK K
        try simp only [Act.put, List.getElem_toArray, List.getElem_cons_succ, List.getElem_cons_zero, List.setIfInBounds_toArray, List.set_cons_zero, List.set_cons_succ]
        refine wpAnyH_take (i := 9) (v := .pointer (some ⟨g, 0, none⟩)) rfl (by kernel_rfl) (by kernel_rfl) (by kernel_rfl) (fun _ _ _ h => h) (Or.inl ⟨by rfl, fun w h => by go_simp⟩) hHeld ?_
        try simp only [Act.put, List.getElem_toArray, List.getElem_cons_succ, List.getElem_cons_zero, List.setIfInBounds_toArray, List.set_cons_zero, List.set_cons_succ]
        refine wpAnyH_take (i := 10) (v := .pointer (some ⟨g, 0, none⟩)) rfl (by kernel_rfl) (by kernel_rfl) (by kernel_rfl) (fun _ _ _ h => h) (Or.inl ⟨by rfl, fun w h => by go_simp⟩) hHeld ?_
        try simp only [Act.put, List.getElem_toArray, List.getElem_cons_succ, List.getElem_cons_zero, List.setIfInBounds_toArray, List.set_cons_zero, List.set_cons_succ]
        refine wpAnyH_ready (rs := [11]) (by kernel_rfl) (by simp) (AllReadyH.cons rfl (fun K hK => ?_) AllReadyH.nil)
        go_simp
        refine hK.out _ _ ((HA.out.2.1.box k (by simp)).1.at_ 3) (fun hHeld => ?_)
        clear hK K
        try simp only [Act.put, List.getElem_toArray, List.getElem_cons_succ, List.getElem_cons_zero, List.setIfInBounds_toArray, List.set_cons_zero, List.set_cons_succ]
        refine wpAnyH_done (by kernel_rfl) ?_ _
        try simp only [Act.put, List.getElem_toArray, List.getElem_cons_succ, List.getElem_cons_zero]
        go_wp2
        go_meet
        exact HA.out.2.1
      case q4b =>
        go_simp
        go_at_call 59
        refine (vtext_any _ HNM.out (by omega)).mono ?_
        rintro x w2 ⟨a2, c2, rfl, o2, B2⟩
        have HX := Lib.hid o2.rs
        have hvz := vsz_bd s.nm.n
        obtain ⟨z2, hz2⟩ : ∃ z, vsz s.nm.n + s.nm.n = z := ⟨_, rfl⟩
        have hz2b : z2 ≤ 102 := by omega
        rw [hz2] at HX ⊢
        clear hz2 hvz
        refine hK.out _ _ (((HBX.out k (by simp)).1.bel B2).at_ 3) (fun hHeld => ?_)
        clear hK K
        try simp only [Act.put, List.getElem_toArray, List.getElem_cons_succ, List.getElem_cons_zero, List.setIfInBounds_toArray, List.set_cons_zero, List.set_cons_succ]
        have HrowX := Lib.hid (HP.out.row.bel B2)
        refine wpAnyH_ready (rs := [4]) (by kernel_rfl) (by simp) (AllReadyH.cons rfl (fun K hK => ?_) AllReadyH.nil)
        have q : w2.cell? ⟨g, 0, none⟩ = some (.slice a1 n1 c1) := HrowX.out.at_ 0
        go_simp
        refine hK.out _ _ hHeld (fun hHeld => ?_)
        clear hK K q
        try simp only [Act.put, List.getElem_toArray, List.getElem_cons_succ, List.getElem_cons_zero, List.setIfInBounds_toArray, List.set_cons_zero, List.set_cons_succ]
        have HO2 := Lib.hid (HO.out.below B2 (Nat.le_refl _))
        have HP2 := Lib.hid (HP.out.bel B2)
        have HBL2 := Lib.hid (below_then HBL.out B2 HBL.out.size)
        have HBX2 := Lib.hid (fun j hj => (⟨(HBX.out j hj).1.bel B2, (HBX.out j hj).2⟩ : CR w2 j 31 (mgc m s) ∧ j ≠ g))
        have hsz2 := HBL2.out.size
        clear B2
        refine wpAnyH_ready (rs := [8]) (by kernel_rfl) (by simp) (AllReadyH.cons rfl (fun K hK => ?_) AllReadyH.nil)
        refine S_append tB HO2.out HX.out _ _ rfl rfl rfl rfl (by omega) (by unfold maxLen; omega) hsz2 ?_
        intro a3 c3 w3 o3 g3
        have hap := FD.app HP2.out HO2.out HBX2.out HBL2.out o3 g3 ⟨vs ++ textS _, by rw [List.map_append]⟩ (N := 934) (by omega)
        have q : w3.cell? ⟨g, 0, none⟩ = some (.slice a1 n1 c1) := hap.1.at_ 0
        have qf := hap.1.fr 0
        have HA := Lib.hid hap
        clear hap o3 g3
        refine hK.out _ _ ((HA.out.2.2 k (by simp)).at_ 3) (fun hHeld => ?_)
        clear hK K
        try simp only [Act.put, List.getElem_toArray, List.getElem_cons_succ, List.getElem_cons_zero, List.setIfInBounds_toArray, List.set_cons_zero, List.set_cons_succ]
        refine wpAnyH_take (i := 9) (v := .pointer (some ⟨g, 0, none⟩)) rfl (by kernel_rfl) (by kernel_rfl) (by kernel_rfl) (fun _ _ _ h => h) (Or.inl ⟨by rfl, fun w h => by go_simp⟩) hHeld ?_
        try simp only [Act.put, List.getElem_toArray, List.getElem_cons_succ, List.getElem_cons_zero, List.setIfInBounds_toArray, List.set_cons_zero, List.set_cons_succ]
        refine wpAnyH_take (i := 10) (v := .pointer (some ⟨g, 0, none⟩)) rfl (by kernel_rfl) (by kernel_rfl) (by kernel_rfl) (fun _ _ _ h => h) (Or.inl ⟨by rfl, fun w h => by go_simp⟩) hHeld ?_
        try simp only [Act.put, List.getElem_toArray, List.getElem_cons_succ, List.getElem_cons_zero, List.setIfInBounds_toArray, List.set_cons_zero, List.set_cons_succ]
        refine wpAnyH_ready (rs := [11]) (by kernel_rfl) (by simp) (AllReadyH.cons rfl (fun K hK => ?_) AllReadyH.nil)
        go_simp
        refine hK.out _ _ ((HA.out.2.1.box k (by simp)).1.at_ 3) (fun hHeld => ?_)
        clear hK K
        try simp only [Act.put, List.getElem_toArray, List.getElem_cons_succ, List.getElem_cons_zero, List.setIfInBounds_toArray, List.set_cons_zero, List.set_cons_succ]
        refine wpAnyH_done (by kernel_rfl) ?_ _
        try simp only [Act.put, List.getElem_toArray, List.getElem_cons_succ, List.getElem_cons_zero]
        go_wp2
        go_meet
        exact HA.out.2.1
  case rest =>
  have H5 := Lib.hid hcut
  clear hcut H4
  obtain ⟨W5, hWW⟩ : ∃ x, x = wc := ⟨_, rfl⟩
  subst hWW
  go_upto_if 61 with (fail)
  go_cut [6] (fun s6 wx => FD wB g [k, k0] m s 935 wx)
  case first => as_aux_lemma =>
    refine wp_cond_split rfl (fun h => ?c5a) (fun h => ?c5b)
    case c5b =>
      go_wp2
      go_meet
      exact H5.out.mono (by omega)
    case c5a =>
      clear h
      go_upto_region 13 with (fail)
      obtain ⟨V, hV⟩ : ∃ V, W5.drew = V := ⟨_, rfl⟩
      have hfV : FD wB g [k, k0] m s 934 V := by rw [← hV]; exact H5.out.drew
      obtain ⟨⟨n1, a1, c1, hP, hN1⟩, hbx, hbl⟩ := hfV
      obtain ⟨vs, ho⟩ := hP.ow
      have hk3 : W5.cell? ⟨k, 4, none⟩ = some (.int .u8 (m.prio : Int)) := (H5.out.box k (by simp)).1.at_ 4
      have HP := Lib.hid hP
      have HO := Lib.hid ho
      have HBX := Lib.hid hbx
      have HBL := Lib.hid hbl
      have HK3 := Lib.hid hk3
      clear hP ho hbx hbl hk3
      refine wp_region_held_drew (S := fun w' => w'.cell? ⟨k, 4, none⟩ = some (.int .u8 (m.prio : Int))) (by kernel_rfl) HK3.out (fun hHeld => ?_)
      rw [hV] at hHeld ⊢
      refine wpAnyH_take (i := 0) (v := .pointer (some ⟨g, 0, none⟩)) rfl (by kernel_rfl) (by kernel_rfl) (by kernel_rfl) (fun _ _ _ h => h) (Or.inl ⟨by rfl, fun w h => by go_simp⟩) hHeld ?_
      try simp only [Act.put, List.getElem_toArray, List.getElem_cons_zero, List.setIfInBounds_toArray, List.set_cons_zero, List.set_cons_succ]
      refine wpAnyH_take (i := 1) (v := .pointer (some ⟨g, 0, none⟩)) rfl (by kernel_rfl) (by kernel_rfl) (by kernel_rfl) (fun _ _ _ h => h) (Or.inl ⟨by rfl, fun w h => by go_simp⟩) hHeld ?_
      try simp only [Act.put, List.getElem_toArray, List.getElem_cons_succ, List.getElem_cons_zero, List.setIfInBounds_toArray, List.set_cons_zero, List.set_cons_succ]
      refine wpAnyH_take (i := 2) (v := .pointer (some ⟨g, 0, none⟩)) rfl (by kernel_rfl) (by kernel_rfl) (by kernel_rfl) (fun _ _ _ h => h) (Or.inl ⟨by rfl, fun w h => by go_simp⟩) hHeld ?_
      try simp only [Act.put, List.getElem_toArray, List.getElem_cons_succ, List.getElem_cons_zero, List.setIfInBounds_toArray, List.set_cons_zero, List.set_cons_succ]
      refine wpAnyH_take (i := 3) (v := .pointer (some ⟨g, 0, none⟩)) rfl (by kernel_rfl) (by kernel_rfl) (by kernel_rfl) (fun _ _ _ h => h) (Or.inl ⟨by rfl, fun w h => by go_simp⟩) hHeld ?_
      try simp only [Act.put, List.getElem_toArray, List.getElem_cons_succ, List.getElem_cons_zero, List.setIfInBounds_toArray, List.set_cons_zero, List.set_cons_succ]
      refine wpAnyH_take (i := 5) (v := .pointer (some ⟨k, 4, none⟩)) rfl (by kernel_rfl) (by kernel_rfl) (by kernel_rfl) (fun _ _ _ h => h) (Or.inl ⟨by rfl, fun w h => by go_simp⟩) hHeld ?_
      try simp only [Act.put, List.getElem_toArray, List.getElem_cons_succ, List.getElem_cons_zero, List.setIfInBounds_toArray, List.set_cons_zero, List.set_cons_succ]
      refine wpAnyH_take (i := 6) (v := .int .u8 (m.prio : Int)) rfl (by kernel_rfl) (by kernel_rfl) (by kernel_rfl) (fun _ _ _ h => h) (Or.inl ⟨by rfl, fun w h => by go_simp⟩) hHeld ?_
      try simp only [Act.put, List.getElem_toArray, List.getElem_cons_succ, List.getElem_cons_zero, List.setIfInBounds_toArray, List.set_cons_zero, List.set_cons_succ]
      refine wpAnyH_ready (rs := [4, 7]) (by kernel_rfl) (by simp) (AllReadyH.cons rfl (fun K hK => ?q5a) (AllReadyH.cons rfl (fun K hK => ?q5b) AllReadyH.nil))
      case q5a =>
        have q : V.cell? ⟨g, 0, none⟩ = some (.slice a1 n1 c1) := HP.out.row.at_ 0
        go_simp
        refine hK.out _ _ hHeld (fun hHeld => ?_)
        clear hK K q
        try simp only [Act.put, List.getElem_toArray, List.getElem_cons_succ, List.getElem_cons_zero, List.setIfInBounds_toArray, List.set_cons_zero, List.set_cons_succ]
        refine wpAnyH_ready (rs := [7]) (by kernel_rfl) (by simp) (AllReadyH.cons rfl (fun K hK => ?_) AllReadyH.nil)
        go_simp
        have B2 := below_alloc V (.cells #[.int .u8 (m.prio : Int)] 5)
        have hx2 := RS_one V 5 (.int .u8 (m.prio : Int)) rfl
        obtain ⟨w2, hw2⟩ : ∃ x, V.alloc (.cells #[.int .u8 (m.prio : Int)] 5) = x := ⟨_, rfl⟩
        obtain ⟨a2, ha2⟩ : ∃ x, V.heap.size = x := ⟨_, rfl⟩
        rw [hw2] at B2 ⊢
        rw [hw2, ha2] at hx2
        rw [ha2]
        have HX := Lib.hid hx2
        clear hw2 ha2 hx2
        refine hK.out _ _ (((HBX.out k (by simp)).1.bel B2).at_ 4) (fun hHeld => ?_)
        clear hK K
        try simp only [Act.put, List.getElem_toArray, List.getElem_cons_succ, List.getElem_cons_zero, List.setIfInBounds_toArray, List.set_cons_zero, List.set_cons_succ]
        have HO2 := Lib.hid (HO.out.below B2 (Nat.le_refl _))
        have HP2 := Lib.hid (HP.out.bel B2)
        have HBL2 := Lib.hid (below_then HBL.out B2 HBL.out.size)
        have HBX2 := Lib.hid (fun j hj => (⟨(HBX.out j hj).1.bel B2, (HBX.out j hj).2⟩ : CR w2 j 31 (mgc m s) ∧ j ≠ g))
        have hsz2 := HBL2.out.size
        clear B2
        refine wpAnyH_ready (rs := [8]) (by kernel_rfl) (by simp) (AllReadyH.cons rfl (fun K hK => ?_) AllReadyH.nil)
        refine S_append tB HO2.out HX.out _ _ rfl rfl rfl rfl (by omega) (by unfold maxLen; omega) hsz2 ?_
        intro a3 c3 w3 o3 g3
        have hap := FD.app HP2.out HO2.out HBX2.out HBL2.out o3 g3 ⟨vs ++ [UInt8.ofNat m.prio], by rw [List.map_append]; simp only [List.map_cons, List.map_nil, B, UInt8.toNat_ofNat']; rw [Nat.mod_eq_of_lt HM.out.b.prio]⟩ (N := 935) (by omega)
        have q : w3.cell? ⟨g, 0, none⟩ = some (.slice a1 n1 c1) := hap.1.at_ 0
        have qf := hap.1.fr 0
        have HA := Lib.hid hap
        clear hap o3 g3
        refine hK.out _ _ ((HA.out.2.2 k (by simp)).at_ 4) (fun hHeld => ?_)
        clear hK K
        try simp only [Act.put, List.getElem_toArray, List.getElem_cons_succ, List.getElem_cons_zero, List.setIfInBounds_toArray, List.set_cons_zero, List.set_cons_succ]
        refine wpAnyH_take (i := 9) (v := .pointer (some ⟨g, 0, none⟩)) rfl (by kernel_rfl) (by kernel_rfl) (by kernel_rfl) (fun _ _ _ h => h) (Or.inl ⟨by rfl, fun w h => by go_simp⟩) hHeld ?_
        try simp only [Act.put, List.getElem_toArray, List.getElem_cons_succ, List.getElem_cons_zero, List.setIfInBounds_toArray, List.set_cons_zero, List.set_cons_succ]
        refine wpAnyH_take (i := 10) (v := .pointer (some ⟨g, 0, none⟩)) rfl (by kernel_rfl) (by kernel_rfl) (by kernel_rfl) (fun _ _ _ h => h) (Or.inl ⟨by rfl, fun w h => by go_simp⟩) hHeld ?_
        try simp only [Act.put, List.getElem_toArray, List.getElem_cons_succ, List.getElem_cons_zero, List.setIfInBounds_toArray, List.set_cons_zero, List.set_cons_succ]
        refine wpAnyH_ready (rs := [11]) (by kernel_rfl) (by simp) (AllReadyH.cons rfl (fun K hK => ?_) AllReadyH.nil)
        go_simp
        refine hK.out _ _ ((HA.out.2.1.box k (by simp)).1.at_ 4) (fun hHeld => ?_)
        clear hK K
        try simp only [Act.put, List.getElem_toArray, List.getElem_cons_succ, List.getElem_cons_zero, List.setIfInBounds_toArray, List.set_cons_zero, List.set_cons_succ]
        refine wpAnyH_done (by kernel_rfl) ?_ _
        try simp only [Act.put, List.getElem_toArray, List.getElem_cons_succ, List.getElem_cons_zero]
        go_wp2
        go_meet
        exact HA.out.2.1
      case q5b =>
        go_simp
        have B2 := below_alloc V (.cells #[.int .u8 (m.prio : Int)] 5)
        have hx2 := RS_one V 5 (.int .u8 (m.prio : Int)) rfl
        obtain ⟨w2, hw2⟩ : ∃ x, V.alloc (.cells #[.int .u8 (m.prio : Int)] 5) = x := ⟨_, rfl⟩
        obtain ⟨a2, ha2⟩ : ∃ x, V.heap.size = x := ⟨_, rfl⟩
        rw [hw2] at B2 ⊢
        rw [hw2, ha2] at hx2
        rw [ha2]
        have HX := Lib.hid hx2
        clear hw2 ha2 hx2
        refine hK.out _ _ (((HBX.out k (by simp)).1.bel B2).at_ 4) (fun hHeld => ?_)
        clear hK K
        try simp only [Act.put, List.getElem_toArray, List.getElem_cons_succ, List.getElem_cons_zero, List.setIfInBounds_toArray, List.set_cons_zero, List.set_cons_succ]
        have HrowX := Lib.hid (HP.out.row.bel B2)
        refine wpAnyH_ready (rs := [4]) (by kernel_rfl) (by simp) (AllReadyH.cons rfl (fun K hK => ?_) AllReadyH.nil)
        have q : w2.cell? ⟨g, 0, none⟩ = some (.slice a1 n1 c1) := HrowX.out.at_ 0
        go_simp
        refine hK.out _ _ hHeld (fun hHeld => ?_)
        clear hK K q
        try simp only [Act.put, List.getElem_toArray, List.getElem_cons_succ, List.getElem_cons_zero, List.setIfInBounds_toArray, List.set_cons_zero, List.set_cons_succ]
        have HO2 := Lib.hid (HO.out.below B2 (Nat.le_refl _))
        have HP2 := Lib.hid (HP.out.bel B2)
        have HBL2 := Lib.hid (below_then HBL.out B2 HBL.out.size)
        have HBX2 := Lib.hid (fun j hj => (⟨(HBX.out j hj).1.bel B2, (HBX.out j hj).2⟩ : CR w2 j 31 (mgc m s) ∧ j ≠ g))
        have hsz2 := HBL2.out.size
        clear B2
        refine wpAnyH_ready (rs := [8]) (by kernel_rfl) (by simp) (AllReadyH.cons rfl (fun K hK => ?_) AllReadyH.nil)
        refine S_append tB HO2.out HX.out _ _ rfl rfl rfl rfl (by omega) (by unfold maxLen; omega) hsz2 ?_
        intro a3 c3 w3 o3 g3
        have hap := FD.app HP2.out HO2.out HBX2.out HBL2.out o3 g3 ⟨vs ++ [UInt8.ofNat m.prio], by rw [List.map_append]; simp only [List.map_cons, List.map_nil, B, UInt8.toNat_ofNat']; rw [Nat.mod_eq_of_lt HM.out.b.prio]⟩ (N := 935) (by omega)
        have q : w3.cell? ⟨g, 0, none⟩ = some (.slice a1 n1 c1) := hap.1.at_ 0
        have qf := hap.1.fr 0
        have HA := Lib.hid hap
        clear hap o3 g3
        refine hK.out _ _ ((HA.out.2.2 k (by simp)).at_ 4) (fun hHeld => ?_)
        clear hK K
        try simp only [Act.put, List.getElem_toArray, List.getElem_cons_succ, List.getElem_cons_zero, List.setIfInBounds_toArray, List.set_cons_zero, List.set_cons_succ]
        refine wpAnyH_take (i := 9) (v := .pointer (some ⟨g, 0, none⟩)) rfl (by kernel_rfl) (by kernel_rfl) (by kernel_rfl) (fun _ _ _ h => h) (Or.inl ⟨by rfl, fun w h => by go_simp⟩) hHeld ?_
        try simp only [Act.put, List.getElem_toArray, List.getElem_cons_succ, List.getElem_cons_zero, List.setIfInBounds_toArray, List.set_cons_zero, List.set_cons_succ]
        refine wpAnyH_take (i := 10) (v := .pointer (some ⟨g, 0, none⟩)) rfl (by kernel_rfl) (by kernel_rfl) (by kernel_rfl) (fun _ _ _ h => h) (Or.inl ⟨by rfl, fun w h => by go_simp⟩) hHeld ?_
        try simp only [Act.put, List.getElem_toArray, List.getElem_cons_succ, List.getElem_cons_zero, List.setIfInBounds_toArray, List.set_cons_zero, List.set_cons_succ]
        refine wpAnyH_ready (rs := [11]) (by kernel_rfl) (by simp) (AllReadyH.cons rfl (fun K hK => ?_) AllReadyH.nil)
        go_simp
        refine hK.out _ _ ((HA.out.2.1.box k (by simp)).1.at_ 4) (fun hHeld => ?_)
        clear hK K
        try simp only [Act.put, List.getElem_toArray, List.getElem_cons_succ, List.getElem_cons_zero, List.setIfInBounds_toArray, List.set_cons_zero, List.set_cons_succ]
        refine wpAnyH_done (by kernel_rfl) ?_ _
        try simp only [Act.put, List.getElem_toArray, List.getElem_cons_succ, List.getElem_cons_zero]
        go_wp2
        go_meet
        exact HA.out.2.1
  case rest =>
  have H6 := Lib.hid hcut
  clear hcut H5
  obtain ⟨W6, hWW⟩ : ∃ x, x = wc := ⟨_, rfl⟩
  subst hWW
  go_upto_if 75 with (fail)
  go_cut [6] (fun s6 wx => FD wB g [k, k0] m s 936 wx)
  case first => as_aux_lemma =>
    refine wp_cond_split rfl (fun h => ?c6a) (fun h => ?c6b)
    case c6b =>
      go_wp2
      go_meet
      exact H6.out.mono (by omega)
    case c6a =>
      clear h
      go_upto_region 15 with (fail)
      obtain ⟨V, hV⟩ : ∃ V, W6.drew = V := ⟨_, rfl⟩
      have hfV : FD wB g [k, k0] m s 935 V := by rw [← hV]; exact H6.out.drew
      obtain ⟨⟨n1, a1, c1, hP, hN1⟩, hbx, hbl⟩ := hfV
      obtain ⟨vs, ho⟩ := hP.ow
      have hk3 : W6.cell? ⟨k, 5, none⟩ = some (.int .u8 (m.ord : Int)) := (H6.out.box k (by simp)).1.at_ 5
      have HP := Lib.hid hP
      have HO := Lib.hid ho
      have HBX := Lib.hid hbx
      have HBL := Lib.hid hbl
      have HK3 := Lib.hid hk3
      clear hP ho hbx hbl hk3
      refine wp_region_held_drew (S := fun w' => w'.cell? ⟨k, 5, none⟩ = some (.int .u8 (m.ord : Int))) (by kernel_rfl) HK3.out (fun hHeld => ?_)
      rw [hV] at hHeld ⊢
      refine wpAnyH_take (i := 0) (v := .pointer (some ⟨g, 0, none⟩)) rfl (by kernel_rfl) (by kernel_rfl) (by kernel_rfl) (fun _ _ _ h => h) (Or.inl ⟨by rfl, fun w h => by go_simp⟩) hHeld ?_
      try simp only [Act.put, List.getElem_toArray, List.getElem_cons_zero, List.setIfInBounds_toArray, List.set_cons_zero, List.set_cons_succ]
      refine wpAnyH_take (i := 1) (v := .pointer (some ⟨g, 0, none⟩)) rfl (by kernel_rfl) (by kernel_rfl) (by kernel_rfl) (fun _ _ _ h => h) (Or.inl ⟨by rfl, fun w h => by go_simp⟩) hHeld ?_
      try simp only [Act.put, List.getElem_toArray, List.getElem_cons_succ, List.getElem_cons_zero, List.setIfInBounds_toArray, List.set_cons_zero, List.set_cons_succ]
      refine wpAnyH_take (i := 2) (v := .pointer (some ⟨g, 0, none⟩)) rfl (by kernel_rfl) (by kernel_rfl) (by kernel_rfl) (fun _ _ _ h => h) (Or.inl ⟨by rfl, fun w h => by go_simp⟩) hHeld ?_
      try simp only [Act.put, List.getElem_toArray, List.getElem_cons_succ, List.getElem_cons_zero, List.setIfInBounds_toArray, List.set_cons_zero, List.set_cons_succ]
      refine wpAnyH_take (i := 3) (v := .pointer (some ⟨g, 0, none⟩)) rfl (by kernel_rfl) (by kernel_rfl) (by kernel_rfl) (fun _ _ _ h => h) (Or.inl ⟨by rfl, fun w h => by go_simp⟩) hHeld ?_
      try simp only [Act.put, List.getElem_toArray, List.getElem_cons_succ, List.getElem_cons_zero, List.setIfInBounds_toArray, List.set_cons_zero, List.set_cons_succ]
      refine wpAnyH_take (i := 5) (v := .pointer (some ⟨k, 5, none⟩)) rfl (by kernel_rfl) (by kernel_rfl) (by kernel_rfl) (fun _ _ _ h => h) (Or.inl ⟨by rfl, fun w h => by go_simp⟩) hHeld ?_
      try simp only [Act.put, List.getElem_toArray, List.getElem_cons_succ, List.getElem_cons_zero, List.setIfInBounds_toArray, List.set_cons_zero, List.set_cons_succ]
      refine wpAnyH_take (i := 6) (v := .int .u8 (m.ord : Int)) rfl (by kernel_rfl) (by kernel_rfl) (by kernel_rfl) (fun _ _ _ h => h) (Or.inl ⟨by rfl, fun w h => by go_simp⟩) hHeld ?_
      try simp only [Act.put, List.getElem_toArray, List.getElem_cons_succ, List.getElem_cons_zero, List.setIfInBounds_toArray, List.set_cons_zero, List.set_cons_succ]
      refine wpAnyH_ready (rs := [4, 7]) (by kernel_rfl) (by simp) (AllReadyH.cons rfl (fun K hK => ?q6a) (AllReadyH.cons rfl (fun K hK => ?q6b) AllReadyH.nil))
      case q6a =>
        have q : V.cell? ⟨g, 0, none⟩ = some (.slice a1 n1 c1) := HP.out.row.at_ 0
        go_simp
        refine hK.out _ _ hHeld (fun hHeld => ?_)
        clear hK K q
        try simp only [Act.put, List.getElem_toArray, List.getElem_cons_succ, List.getElem_cons_zero, List.setIfInBounds_toArray, List.set_cons_zero, List.set_cons_succ]
        refine wpAnyH_ready (rs := [7]) (by kernel_rfl) (by simp) (AllReadyH.cons rfl (fun K hK => ?_) AllReadyH.nil)
        go_simp
        have B2 := below_alloc V (.cells #[.int .u8 (m.ord : Int)] 5)
        have hx2 := RS_one V 5 (.int .u8 (m.ord : Int)) rfl
        obtain ⟨w2, hw2⟩ : ∃ x, V.alloc (.cells #[.int .u8 (m.ord : Int)] 5) = x := ⟨_, rfl⟩
        obtain ⟨a2, ha2⟩ : ∃ x, V.heap.size = x := ⟨_, rfl⟩
        rw [hw2] at B2 ⊢
        rw [hw2, ha2] at hx2
        rw [ha2]
        have HX := Lib.hid hx2
        clear hw2 ha2 hx2
        refine hK.out _ _ (((HBX.out k (by simp)).1.bel B2).at_ 5) (fun hHeld => ?_)
        clear hK K
        try simp only [Act.put, List.getElem_toArray, List.getElem_cons_succ, List.getElem_cons_zero, List.setIfInBounds_toArray, List.set_cons_zero, List.set_cons_succ]
        have HO2 := Lib.hid (HO.out.below B2 (Nat.le_refl _))
        have HP2 := Lib.hid (HP.out.bel B2)
        have HBL2 := Lib.hid (below_then HBL.out B2 HBL.out.size)
        have HBX2 := Lib.hid (fun j hj => (⟨(HBX.out j hj).1.bel B2, (HBX.out j hj).2⟩ : CR w2 j 31 (mgc m s) ∧ j ≠ g))
        have hsz2 := HBL2.out.size
        clear B2
        refine wpAnyH_ready (rs := [8]) (by kernel_rfl) (by simp) (AllReadyH.cons rfl (fun K hK => ?_) AllReadyH.nil)
        refine S_append tB HO2.out HX.out _ _ rfl rfl rfl rfl (by omega) (by unfold maxLen; omega) hsz2 ?_
        intro a3 c3 w3 o3 g3
        have hap := FD.app HP2.out HO2.out HBX2.out HBL2.out o3 g3 ⟨vs ++ [UInt8.ofNat m.ord], by rw [List.map_append]; simp only [List.map_cons, List.map_nil, B, UInt8.toNat_ofNat']; rw [Nat.mod_eq_of_lt HM.out.b.ord]⟩ (N := 936) (by omega)
        have q : w3.cell? ⟨g, 0, none⟩ = some (.slice a1 n1 c1) := hap.1.at_ 0
        have qf := hap.1.fr 0
        have HA := Lib.hid hap
        clear hap o3 g3
        refine hK.out _ _ ((HA.out.2.2 k (by simp)).at_ 5) (fun hHeld => ?_)
        clear hK K
        try simp only [Act.put, List.getElem_toArray, List.getElem_cons_succ, List.getElem_cons_zero, List.setIfInBounds_toArray, List.set_cons_zero, List.set_cons_succ]
        refine wpAnyH_take (i := 9) (v := .pointer (some ⟨g, 0, none⟩)) rfl (by kernel_rfl) (by kernel_rfl) (by kernel_rfl) (fun _ _ _ h => h) (Or.inl ⟨by rfl, fun w h => by go_simp⟩) hHeld ?_
        try simp only [Act.put, List.getElem_toArray, List.getElem_cons_succ, List.getElem_cons_zero, List.setIfInBounds_toArray, List.set_cons_zero, List.set_cons_succ]
        refine wpAnyH_take (i := 10) (v := .pointer (some ⟨g, 0, none⟩)) rfl (by kernel_rfl) (by kernel_rfl) (by kernel_rfl) (fun _ _ _ h => h) (Or.inl ⟨by rfl, fun w h => by go_simp⟩) hHeld ?_
        try simp only [Act.put, List.getElem_toArray, List.getElem_cons_succ, List.getElem_cons_zero, List.setIfInBounds_toArray, List.set_cons_zero, List.set_cons_succ]
        refine wpAnyH_ready (rs := [11]) (by kernel_rfl) (by simp) (AllReadyH.cons rfl (fun K hK => ?_) AllReadyH.nil)
        go_simp
        refine hK.out _ _ ((HA.out.2.1.box k (by simp)).1.at_ 5) (fun hHeld => ?_)
        clear hK K
        try simp only [Act.put, List.getElem_toArray, List.getElem_cons_succ, List.getElem_cons_zero, List.setIfInBounds_toArray, List.set_cons_zero, List.set_cons_succ]
        refine wpAnyH_done (by kernel_rfl) ?_ _
        try simp only [Act.put, List.getElem_toArray, List.getElem_cons_succ, List.getElem_cons_zero]
        go_wp2
        go_meet
        exact HA.out.2.1
      case q6b =>
        go_simp
        have B2 := below_alloc V (.cells #[.int .u8 (m.ord : Int)] 5)
        have hx2 := RS_one V 5 (.int .u8 (m.ord : Int)) rfl
        obtain ⟨w2, hw2⟩ : ∃ x, V.alloc (.cells #[.int .u8 (m.ord : Int)] 5) = x := ⟨_, rfl⟩
        obtain ⟨a2, ha2⟩ : ∃ x, V.heap.size = x := ⟨_, rfl⟩
        rw [hw2] at B2 ⊢
        rw [hw2, ha2] at hx2
        rw [ha2]
        have HX := Lib.hid hx2
        clear hw2 ha2 hx2
        refine hK.out _ _ (((HBX.out k (by simp)).1.bel B2).at_ 5) (fun hHeld => ?_)
        clear hK K
        try simp only [Act.put, List.getElem_toArray, List.getElem_cons_succ, List.getElem_cons_zero, List.setIfInBounds_toArray, List.set_cons_zero, List.set_cons_succ]
        have HrowX := Lib.hid (HP.out.row.bel B2)
        refine wpAnyH_ready (rs := [4]) (by kernel_rfl) (by simp) (AllReadyH.cons rfl (fun K hK => ?_) AllReadyH.nil)
        have q : w2.cell? ⟨g, 0, none⟩ = some (.slice a1 n1 c1) := HrowX.out.at_ 0
        go_simp
        refine hK.out _ _ hHeld (fun hHeld => ?_)
        clear hK K q
        try simp only [Act.put, List.getElem_toArray, List.getElem_cons_succ, List.getElem_cons_zero, List.setIfInBounds_toArray, List.set_cons_zero, List.set_cons_succ]
        have HO2 := Lib.hid (HO.out.below B2 (Nat.le_refl _))
        have HP2 := Lib.hid (HP.out.bel B2)
        have HBL2 := Lib.hid (below_then HBL.out B2 HBL.out.size)
        have HBX2 := Lib.hid (fun j hj => (⟨(HBX.out j hj).1.bel B2, (HBX.out j hj).2⟩ : CR w2 j 31 (mgc m s) ∧ j ≠ g))
        have hsz2 := HBL2.out.size
        clear B2
        refine wpAnyH_ready (rs := [8]) (by kernel_rfl) (by simp) (AllReadyH.cons rfl (fun K hK => ?_) AllReadyH.nil)
        refine S_append tB HO2.out HX.out _ _ rfl rfl rfl rfl (by omega) (by unfold maxLen; omega) hsz2 ?_
        intro a3 c3 w3 o3 g3
        have hap := FD.app HP2.out HO2.out HBX2.out HBL2.out o3 g3 ⟨vs ++ [UInt8.ofNat m.ord], by rw [List.map_append]; simp only [List.map_cons, List.map_nil, B, UInt8.toNat_ofNat']; rw [Nat.mod_eq_of_lt HM.out.b.ord]⟩ (N := 936) (by omega)
        have q : w3.cell? ⟨g, 0, none⟩ = some (.slice a1 n1 c1) := hap.1.at_ 0
        have qf := hap.1.fr 0
        have HA := Lib.hid hap
        clear hap o3 g3
        refine hK.out _ _ ((HA.out.2.2 k (by simp)).at_ 5) (fun hHeld => ?_)
        clear hK K
        try simp only [Act.put, List.getElem_toArray, List.getElem_cons_succ, List.getElem_cons_zero, List.setIfInBounds_toArray, List.set_cons_zero, List.set_cons_succ]
        refine wpAnyH_take (i := 9) (v := .pointer (some ⟨g, 0, none⟩)) rfl (by kernel_rfl) (by kernel_rfl) (by kernel_rfl) (fun _ _ _ h => h) (Or.inl ⟨by rfl, fun w h => by go_simp⟩) hHeld ?_
        try simp only [Act.put, List.getElem_toArray, List.getElem_cons_succ, List.getElem_cons_zero, List.setIfInBounds_toArray, List.set_cons_zero, List.set_cons_succ]
        refine wpAnyH_take (i := 10) (v := .pointer (some ⟨g, 0, none⟩)) rfl (by kernel_rfl) (by kernel_rfl) (by kernel_rfl) (fun _ _ _ h => h) (Or.inl ⟨by rfl, fun w h => by go_simp⟩) hHeld ?_
        try simp only [Act.put, List.getElem_toArray, List.getElem_cons_succ, List.getElem_cons_zero, List.setIfInBounds_toArray, List.set_cons_zero, List.set_cons_succ]
        refine wpAnyH_ready (rs := [11]) (by kernel_rfl) (by simp) (AllReadyH.cons rfl (fun K hK => ?_) AllReadyH.nil)
        go_simp
        refine hK.out _ _ ((HA.out.2.1.box k (by simp)).1.at_ 5) (fun hHeld => ?_)
        clear hK K
        try simp only [Act.put, List.getElem_toArray, List.getElem_cons_succ, List.getElem_cons_zero, List.setIfInBounds_toArray, List.set_cons_zero, List.set_cons_succ]
        refine wpAnyH_done (by kernel_rfl) ?_ _
        try simp only [Act.put, List.getElem_toArray, List.getElem_cons_succ, List.getElem_cons_zero]
        go_wp2
        go_meet
        exact HA.out.2.1
  case rest =>
  have H7 := Lib.hid hcut
  clear hcut H6
  obtain ⟨W7, hWW⟩ : ∃ x, x = wc := ⟨_, rfl⟩
  subst hWW
  go_upto_if 89 with (fail)
  go_cut [6] (fun s6 wx => FD wB g [k, k0] m s 937 wx)
  case first => as_aux_lemma =>
    have c10 : W7.cell? ⟨k, 10, none⟩ = some (.bool m.some) := (H7.out.box k (by simp)).1.at_ 10
    obtain ⟨n1, a1, c1, hP, hN1⟩ := H7.out.pen
    obtain ⟨vs, ho⟩ := hP.ow
    have HP := Lib.hid hP
    have HO := Lib.hid ho
    clear hP ho
    obtain ⟨sb, hsb⟩ : ∃ b, m.some = b := ⟨_, rfl⟩
    rw [hsb] at c10
    clear hsb
    cases sb with
    | true =>
      have B2 := below_alloc W7 (.cells #[.int .u8 1] 5)
      have hx2 := RS_one W7 5 (.int .u8 1) rfl
      have hr2 := HP.out.row.bel B2
      have qg : (W7.alloc (.cells #[.int .u8 1] 5)).cell? ⟨g, 0, none⟩ = some (.slice a1 n1 c1) := hr2.at_ 0
      have qg0 : W7.cell? ⟨g, 0, none⟩ = some (.slice a1 n1 c1) := HP.out.row.at_ 0
      have HX := Lib.hid hx2
      have HO2 := Lib.hid (HO.out.below B2 (Nat.le_refl _))
      have HP2 := Lib.hid (HP.out.bel B2)
      have HBL2 := Lib.hid (below_then H7.out.bel B2 H7.out.bel.size)
      have HBX2 := Lib.hid (fun j hj => (⟨(H7.out.box j hj).1.bel B2, (H7.out.box j hj).2⟩ : CR (W7.alloc (.cells #[.int .u8 1] 5)) j 31 (mgc m s) ∧ j ≠ g))
      have hsz2 := HBL2.out.size
      clear hr2 hx2 B2
      go_wp2_with (at_builtin; refine L_append tB HO2.out HX.out _ _ rfl rfl rfl rfl (by omega) (by unfold maxLen; omega) hsz2 ?_; intro a3 c3 w3 o3 g3; have hap := FD.app HP2.out HO2.out HBX2.out HBL2.out o3 g3 ⟨vs ++ [1], by rw [List.map_append]; rfl⟩ (N := 937) (by omega); have q : w3.cell? ⟨g, 0, none⟩ = some (.slice a1 n1 c1) := hap.1.at_ 0; have qf := hap.1.fr 0; have HA := Lib.hid hap; clear hap o3 g3)
      all_goals (go_meet; first | exact HA.out.2.1 | exact H7.out.mono (by omega))
    | false =>
      have B2 := below_alloc W7 (.cells #[.int .u8 0] 5)
      have hx2 := RS_one W7 5 (.int .u8 0) rfl
      have hr2 := HP.out.row.bel B2
      have qg : (W7.alloc (.cells #[.int .u8 0] 5)).cell? ⟨g, 0, none⟩ = some (.slice a1 n1 c1) := hr2.at_ 0
      have qg0 : W7.cell? ⟨g, 0, none⟩ = some (.slice a1 n1 c1) := HP.out.row.at_ 0
      have HX := Lib.hid hx2
      have HO2 := Lib.hid (HO.out.below B2 (Nat.le_refl _))
      have HP2 := Lib.hid (HP.out.bel B2)
      have HBL2 := Lib.hid (below_then H7.out.bel B2 H7.out.bel.size)
      have HBX2 := Lib.hid (fun j hj => (⟨(H7.out.box j hj).1.bel B2, (H7.out.box j hj).2⟩ : CR (W7.alloc (.cells #[.int .u8 0] 5)) j 31 (mgc m s) ∧ j ≠ g))
      have hsz2 := HBL2.out.size
      clear hr2 hx2 B2
      go_wp2_with (at_builtin; refine L_append tB HO2.out HX.out _ _ rfl rfl rfl rfl (by omega) (by unfold maxLen; omega) hsz2 ?_; intro a3 c3 w3 o3 g3; have hap := FD.app HP2.out HO2.out HBX2.out HBL2.out o3 g3 ⟨vs ++ [0], by rw [List.map_append]; rfl⟩ (N := 937) (by omega); have q : w3.cell? ⟨g, 0, none⟩ = some (.slice a1 n1 c1) := hap.1.at_ 0; have qf := hap.1.fr 0; have HA := Lib.hid hap; clear hap o3 g3)
      all_goals (go_meet; first | exact HA.out.2.1 | exact H7.out.mono (by omega))
  case rest =>
  have H8 := Lib.hid hcut
  clear hcut H7
  obtain ⟨W8, hWW⟩ : ∃ x, x = wc := ⟨_, rfl⟩
  subst hWW
  go_upto_if 104 with (fail)
  go_cut [6] (fun s6 wx => FD wB g [k, k0] m s 953 wx)
  case first => as_aux_lemma =>
    have c6 : W8.cell? ⟨k, 6, none⟩ = some (.int .u64 (m.sg : Int)) := (H8.out.box k (by simp)).1.at_ 6
    have c7 : W8.cell? ⟨k, 7, none⟩ = some (.int .u64 (m.so : Int)) := (H8.out.box k (by simp)).1.at_ 7
    have HN := Lib.hid (fd_num2 W8 H8.out m.sg m.so HF.out.sg HF.out.so (by omega))
    go_wp2_with (go_at_call 58; refine HN.out.mono ?_; rintro y w2 ⟨rfl, hfd⟩)
    all_goals (go_meet; first | exact hfd | exact H8.out.mono (by omega))
  case rest =>
  have H9 := Lib.hid hcut
  clear hcut H8
  obtain ⟨W9, hWW⟩ : ∃ x, x = wc := ⟨_, rfl⟩
  subst hWW
  go_upto_if 116 with (fail)
  go_cut [6] (fun s6 wx => FD wB g [k, k0] m s 969 wx)
  case first => as_aux_lemma =>
    have c8 : W9.cell? ⟨k, 8, none⟩ = some (.int .u64 (m.eg : Int)) := (H9.out.box k (by simp)).1.at_ 8
    have c9 : W9.cell? ⟨k, 9, none⟩ = some (.int .u64 (m.eo : Int)) := (H9.out.box k (by simp)).1.at_ 9
    have HN := Lib.hid (fd_num2 W9 H9.out m.eg m.eo HF.out.eg HF.out.eo (by omega))
    go_wp2_with (go_at_call 58; refine HN.out.mono ?_; rintro y w2 ⟨rfl, hfd⟩)
    all_goals (go_meet; first | exact hfd | exact H9.out.mono (by omega))
  case rest =>
  have H10 := Lib.hid hcut
  clear hcut H9
  obtain ⟨W10, hWW⟩ : ∃ x, x = wc := ⟨_, rfl⟩
  subst hWW
  go_upto_if 128 with (fail)
  go_cut [6] (fun s6 wx => FD wB g [k, k0] m s 977 wx)
  case first => as_aux_lemma =>
    have c8 : W10.cell? ⟨k, 8, none⟩ = some (.int .u64 (m.eg : Int)) := (H10.out.box k (by simp)).1.at_ 8
    have HN := Lib.hid (fd_num1 W10 H10.out m.eg HF.out.eg (by omega))
    go_wp2_with (go_at_call 58; refine HN.out.mono ?_; rintro y w2 ⟨rfl, hfd⟩)
    all_goals (go_meet; first | exact hfd | exact H10.out.mono (by omega))
  case rest =>
  have H11 := Lib.hid hcut
  clear hcut H10
  obtain ⟨W11, hWW⟩ : ∃ x, x = wc := ⟨_, rfl⟩
  subst hWW
  go_upto_if 137 with (fail)
  go_cut [6] (fun s6 wx => FD wB g [k, k0] m s 985 wx)
  case first => as_aux_lemma =>
    have c11 : W11.cell? ⟨k, 11, none⟩ = some (.int .u64 (m.code : Int)) := (H11.out.box k (by simp)).1.at_ 11
    have HN := Lib.hid (fd_num1 W11 H11.out m.code HF.out.code (by omega))
    go_wp2_with (go_at_call 58; refine HN.out.mono ?_; rintro y w2 ⟨rfl, hfd⟩)
    all_goals (go_meet; first | exact hfd | exact H11.out.mono (by omega))
  case rest =>
  have H12 := Lib.hid hcut
  clear hcut H11
  obtain ⟨W12, hWW⟩ : ∃ x, x = wc := ⟨_, rfl⟩
  subst hWW
  go_upto_if 145 with (fail)
  go_cut [6] (fun s6 wx => FD wB g [k, k0] m s 1087 wx)
  case first => as_aux_lemma =>
    refine wp_cond_split rfl (fun h => ?c12a) (fun h => ?c12b)
    case c12b =>
      go_wp2
      go_meet
      exact H12.out.mono (by omega)
    case c12a =>
      clear h
      go_upto_region 30 with (fail)
      obtain ⟨V, hV⟩ : ∃ V, W12.drew = V := ⟨_, rfl⟩
      have hfV : FD wB g [k, k0] m s 985 V := by rw [← hV]; exact H12.out.drew
      obtain ⟨⟨n1, a1, c1, hP, hN1⟩, hbx, hbl⟩ := hfV
      obtain ⟨vs, ho⟩ := hP.ow
      have hk3 : W12.cell? ⟨k, 12, none⟩ = some (.slice s.rs.a s.rs.n s.rs.c) := (H12.out.box k (by simp)).1.at_ 12
      have hnm := HM.out.rs.below hbl (Nat.le_refl _)
      have HNM := Lib.hid hnm
      have HP := Lib.hid hP
      have HO := Lib.hid ho
      have HBX := Lib.hid hbx
      have HBL := Lib.hid hbl
      have HK3 := Lib.hid hk3
      clear hP ho hbx hbl hk3 hnm
      refine wp_region_held_drew (S := fun w' => w'.cell? ⟨k, 12, none⟩ = some (.slice s.rs.a s.rs.n s.rs.c)) (by kernel_rfl) HK3.out (fun hHeld => ?_)
      rw [hV] at hHeld ⊢
      refine wpAnyH_take (i := 0) (v := .pointer (some ⟨g, 0, none⟩)) rfl (by kernel_rfl) (by kernel_rfl) (by kernel_rfl) (fun _ _ _ h => h) (Or.inl ⟨by rfl, fun w h => by go_simp⟩) hHeld ?_
      try simp only [Act.put, List.getElem_toArray, List.getElem_cons_zero, List.setIfInBounds_toArray, List.set_cons_zero, List.set_cons_succ]
      refine wpAnyH_take (i := 1) (v := .pointer (some ⟨g, 0, none⟩)) rfl (by kernel_rfl) (by kernel_rfl) (by kernel_rfl) (fun _ _ _ h => h) (Or.inl ⟨by rfl, fun w h => by go_simp⟩) hHeld ?_
      try simp only [Act.put, List.getElem_toArray, List.getElem_cons_succ, List.getElem_cons_zero, List.setIfInBounds_toArray, List.set_cons_zero, List.set_cons_succ]
      refine wpAnyH_take (i := 2) (v := .pointer (some ⟨g, 0, none⟩)) rfl (by kernel_rfl) (by kernel_rfl) (by kernel_rfl) (fun _ _ _ h => h) (Or.inl ⟨by rfl, fun w h => by go_simp⟩) hHeld ?_
      try simp only [Act.put, List.getElem_toArray, List.getElem_cons_succ, List.getElem_cons_zero, List.setIfInBounds_toArray, List.set_cons_zero, List.set_cons_succ]
      refine wpAnyH_take (i := 3) (v := .pointer (some ⟨g, 0, none⟩)) rfl (by kernel_rfl) (by kernel_rfl) (by kernel_rfl) (fun _ _ _ h => h) (Or.inl ⟨by rfl, fun w h => by go_simp⟩) hHeld ?_
      try simp only [Act.put, List.getElem_toArray, List.getElem_cons_succ, List.getElem_cons_zero, List.setIfInBounds_toArray, List.set_cons_zero, List.set_cons_succ]
      refine wpAnyH_take (i := 5) (v := .pointer (some ⟨k, 12, none⟩)) rfl (by kernel_rfl) (by kernel_rfl) (by kernel_rfl) (fun _ _ _ h => h) (Or.inl ⟨by rfl, fun w h => by go_simp⟩) hHeld ?_
      try simp only [Act.put, List.getElem_toArray, List.getElem_cons_succ, List.getElem_cons_zero, List.setIfInBounds_toArray, List.set_cons_zero, List.set_cons_succ]
      refine wpAnyH_take (i := 6) (v := .slice s.rs.a s.rs.n s.rs.c) rfl (by kernel_rfl) (by kernel_rfl) (by kernel_rfl) (fun _ _ _ h => h) (Or.inl ⟨by rfl, fun w h => by go_simp⟩) hHeld ?_
      try simp only [Act.put, List.getElem_toArray, List.getElem_cons_succ, List.getElem_cons_zero, List.setIfInBounds_toArray, List.set_cons_zero, List.set_cons_succ]
      refine wpAnyH_ready (rs := [4, 7]) (by kernel_rfl) (by simp) (AllReadyH.cons rfl (fun K hK => ?q12a) (AllReadyH.cons rfl (fun K hK => ?q12b) AllReadyH.nil))
      case q12a =>
        have q : V.cell? ⟨g, 0, none⟩ = some (.slice a1 n1 c1) := HP.out.row.at_ 0
        go_simp
        refine hK.out _ _ hHeld (fun hHeld => ?_)
        clear hK K q
        try simp only [Act.put, List.getElem_toArray, List.getElem_cons_succ, List.getElem_cons_zero, List.setIfInBounds_toArray, List.set_cons_zero, List.set_cons_succ]
        refine wpAnyH_ready (rs := [7]) (by kernel_rfl) (by simp) (AllReadyH.cons rfl (fun K hK => ?_) AllReadyH.nil)
        go_simp
        go_at_call 59
        refine (vtext_any _ HNM.out (by omega)).mono ?_
        rintro x w2 ⟨a2, c2, rfl, o2, B2⟩
        have HX := Lib.hid o2.rs
        have hvz := vsz_bd s.rs.n
        obtain ⟨z2, hz2⟩ : ∃ z, vsz s.rs.n + s.rs.n = z := ⟨_, rfl⟩
        have hz2b : z2 ≤ 102 := by omega
        rw [hz2] at HX ⊢
        clear hz2 hvz
        refine hK.out _ _ (((HBX.out k (by simp)).1.bel B2).at_ 12) (fun hHeld => ?_)
        clear hK K
        try simp only [Act.put, List.getElem_toArray, List.getElem_cons_succ, List.getElem_cons_zero, List.setIfInBounds_toArray, List.set_cons_zero, List.set_cons_succ]
        have HO2 := Lib.hid (HO.out.below B2 (Nat.le_refl _))
        have HP2 := Lib.hid (HP.out.bel B2)
        have HBL2 := Lib.hid (below_then HBL.out B2 HBL.out.size)
        have HBX2 := Lib.hid (fun j hj => (⟨(HBX.out j hj).1.bel B2, (HBX.out j hj).2⟩ : CR w2 j 31 (mgc m s) ∧ j ≠ g))
        have hsz2 := HBL2.out.size
        clear B2
        refine wpAnyH_ready (rs := [8]) (by kernel_rfl) (by simp) (AllReadyH.cons rfl (fun K hK => ?_) AllReadyH.nil)
        refine S_append tB HO2.out HX.out _ _ rfl rfl rfl rfl (by omega) (by unfold maxLen; omega) hsz2 ?_
        intro a3 c3 w3 o3 g3
        have hap := FD.app HP2.out HO2.out HBX2.out HBL2.out o3 g3 ⟨vs ++ textS _, by rw [List.map_append]⟩ (N := 1087) (by omega)
        have q : w3.cell? ⟨g, 0, none⟩ = some (.slice a1 n1 c1) := hap.1.at_ 0
        have qf := hap.1.fr 0
        have HA := Lib.hid hap
        clear hap o3 g3
        refine hK.out _ _ ((HA.out.2.2 k (by simp)).at_ 12) (fun hHeld => ?_)
        clear hK K
        try simp only [Act.put, List.getElem_toArray, List.getElem_cons_succ, List.getElem_cons_zero, List.setIfInBounds_toArray, List.set_cons_zero, List.set_cons_succ]
        refine wpAnyH_take (i := 9) (v := .pointer (some ⟨g, 0, none⟩)) rfl (by kernel_rfl) (by kernel_rfl) (by kernel_rfl) (fun _ _ _ h => h) (Or.inl ⟨by rfl, fun w h => by go_simp⟩) hHeld ?_
        try simp only [Act.put, List.getElem_toArray, List.getElem_cons_succ, List.getElem_cons_zero, List.setIfInBounds_toArray, List.set_cons_zero, List.set_cons_succ]
        refine wpAnyH_take (i := 10) (v := .pointer (some ⟨g, 0, none⟩)) rfl (by kernel_rfl) (by kernel_rfl) (by kernel_rfl) (fun _ _ _ h => h) (Or.inl ⟨by rfl, fun w h => by go_simp⟩) hHeld ?_
        try simp only [Act.put, List.getElem_toArray, List.getElem_cons_succ, List.getElem_cons_zero, List.setIfInBounds_toArray, List.set_cons_zero, List.set_cons_succ]
        refine wpAnyH_ready (rs := [11]) (by kernel_rfl) (by simp) (AllReadyH.cons rfl (fun K hK => ?_) AllReadyH.nil)
        go_simp
        refine hK.out _ _ ((HA.out.2.1.box k (by simp)).1.at_ 12) (fun hHeld => ?_)
        clear hK K
        try simp only [Act.put, List.getElem_toArray, List.getElem_cons_succ, List.getElem_cons_zero, List.setIfInBounds_toArray, List.set_cons_zero, List.set_cons_succ]
        refine wpAnyH_done (by kernel_rfl) ?_ _
        try simp only [Act.put, List.getElem_toArray, List.getElem_cons_succ, List.getElem_cons_zero]
        go_wp2
        go_meet
        exact HA.out.2.1
      case q12b =>
        go_simp
        go_at_call 59
        refine (vtext_any _ HNM.out (by omega)).mono ?_
        rintro x w2 ⟨a2, c2, rfl, o2, B2⟩
        have HX := Lib.hid o2.rs
        have hvz := vsz_bd s.rs.n
        obtain ⟨z2, hz2⟩ : ∃ z, vsz s.rs.n + s.rs.n = z := ⟨_, rfl⟩
        have hz2b : z2 ≤ 102 := by omega
        rw [hz2] at HX ⊢
        clear hz2 hvz
        refine hK.out _ _ (((HBX.out k (by simp)).1.bel B2).at_ 12) (fun hHeld => ?_)
        clear hK K
        try simp only [Act.put, List.getElem_toArray, List.getElem_cons_succ, List.getElem_cons_zero, List.setIfInBounds_toArray, List.set_cons_zero, List.set_cons_succ]
        have HrowX := Lib.hid (HP.out.row.bel B2)
        refine wpAnyH_ready (rs := [4]) (by kernel_rfl) (by simp) (AllReadyH.cons rfl (fun K hK => ?_) AllReadyH.nil)
        have q : w2.cell? ⟨g, 0, none⟩ = some (.slice a1 n1 c1) := HrowX.out.at_ 0
        go_simp
        refine hK.out _ _ hHeld (fun hHeld => ?_)
        clear hK K q
        try simp only [Act.put, List.getElem_toArray, List.getElem_cons_succ, List.getElem_cons_zero, List.setIfInBounds_toArray, List.set_cons_zero, List.set_cons_succ]
        have HO2 := Lib.hid (HO.out.below B2 (Nat.le_refl _))
        have HP2 := Lib.hid (HP.out.bel B2)
        have HBL2 := Lib.hid (below_then HBL.out B2 HBL.out.size)
        have HBX2 := Lib.hid (fun j hj => (⟨(HBX.out j hj).1.bel B2, (HBX.out j hj).2⟩ : CR w2 j 31 (mgc m s) ∧ j ≠ g))
        have hsz2 := HBL2.out.size
        clear B2
        refine wpAnyH_ready (rs := [8]) (by kernel_rfl) (by simp) (AllReadyH.cons rfl (fun K hK => ?_) AllReadyH.nil)
        refine S_append tB HO2.out HX.out _ _ rfl rfl rfl rfl (by omega) (by unfold maxLen; omega) hsz2 ?_
        intro a3 c3 w3 o3 g3
        have hap := FD.app HP2.out HO2.out HBX2.out HBL2.out o3 g3 ⟨vs ++ textS _, by rw [List.map_append]⟩ (N := 1087) (by omega)
        have q : w3.cell? ⟨g, 0, none⟩ = some (.slice a1 n1 c1) := hap.1.at_ 0
        have qf := hap.1.fr 0
        have HA := Lib.hid hap
        clear hap o3 g3
        refine hK.out _ _ ((HA.out.2.2 k (by simp)).at_ 12) (fun hHeld => ?_)
        clear hK K
        try simp only [Act.put, List.getElem_toArray, List.getElem_cons_succ, List.getElem_cons_zero, List.setIfInBounds_toArray, List.set_cons_zero, List.set_cons_succ]
        refine wpAnyH_take (i := 9) (v := .pointer (some ⟨g, 0, none⟩)) rfl (by kernel_rfl) (by kernel_rfl) (by kernel_rfl) (fun _ _ _ h => h) (Or.inl ⟨by rfl, fun w h => by go_simp⟩) hHeld ?_
        try simp only [Act.put, List.getElem_toArray, List.getElem_cons_succ, List.getElem_cons_zero, List.setIfInBounds_toArray, List.set_cons_zero, List.set_cons_succ]
        refine wpAnyH_take (i := 10) (v := .pointer (some ⟨g, 0, none⟩)) rfl (by kernel_rfl) (by kernel_rfl) (by kernel_rfl) (fun _ _ _ h => h) (Or.inl ⟨by rfl, fun w h => by go_simp⟩) hHeld ?_
        try simp only [Act.put, List.getElem_toArray, List.getElem_cons_succ, List.getElem_cons_zero, List.setIfInBounds_toArray, List.set_cons_zero, List.set_cons_succ]
        refine wpAnyH_ready (rs := [11]) (by kernel_rfl) (by simp) (AllReadyH.cons rfl (fun K hK => ?_) AllReadyH.nil)
        go_simp
        refine hK.out _ _ ((HA.out.2.1.box k (by simp)).1.at_ 12) (fun hHeld => ?_)
        clear hK K
        try simp only [Act.put, List.getElem_toArray, List.getElem_cons_succ, List.getElem_cons_zero, List.setIfInBounds_toArray, List.set_cons_zero, List.set_cons_succ]
        refine wpAnyH_done (by kernel_rfl) ?_ _
        try simp only [Act.put, List.getElem_toArray, List.getElem_cons_succ, List.getElem_cons_zero]
        go_wp2
        go_meet
        exact HA.out.2.1
  case rest =>
  have H13 := Lib.hid hcut
  clear hcut H12
  obtain ⟨W13, hWW⟩ : ∃ x, x = wc := ⟨_, rfl⟩
  subst hWW
  have c13 : W13.cell? ⟨k, 13, none⟩ = some (.int .u64 (m.n : Int)) := (H13.out.box k (by simp)).1.at_ 13
  have HN := Lib.hid (fd_num1 W13 H13.out m.n HF.out.n (by omega))
  go_wp2_with (go_at_call 58; refine HN.out.mono ?_; rintro y w2 ⟨rfl, hfd⟩)
  all_goals (go_end0; first | exact ⟨rfl, k, hfd.mono (by omega)⟩ | exact ⟨rfl, k, H13.out.mono (by omega)⟩)
end Go.Proofs.YtokgpnkooigamaaDoor
