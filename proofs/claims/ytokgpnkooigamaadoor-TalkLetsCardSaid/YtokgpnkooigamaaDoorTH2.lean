/- word.right: its switch, for some values of parts. -/
import Derived.Test.YtokgpnkooigamaaDoorTH
set_option maxRecDepth 100000
set_option linter.unusedVariables false
namespace Go.Proofs.YtokgpnkooigamaaDoor
open Go.RowKit
theorem ok_1 (m : MG) : okM 1 m = (true) := by simp [okM, bit]
set_option maxHeartbeats 8000000 in
theorem right_1 (w : World) (m : MG) (s : ML) (hm : MR w m s) (hK : KA w) (hp : partsS m.kind = some 1) (he : emptyM (bareM 1 m) = true) (hr : s.rs.n ≤ 64) (hx : maxM m ≤ 4611686018427387903) :
    Calls Tryd.prog 45 #[.agg (mgc m s).toArray] w fun e w' => e = .returned (.bool (okM 1 m)) ∧ Below w.heap.size w w' := by
  have hb := below_alloc w (.cells (mgc m s).toArray 31)
  have hR := CR.new w 31 (mgc m s)
  obtain ⟨w1, hw1⟩ : ∃ x, w.alloc (.cells (mgc m s).toArray 31) = x := ⟨_, rfl⟩
  obtain ⟨k, hk⟩ : ∃ k, w.heap.size = k := ⟨_, rfl⟩
  rw [hw1, hk] at hR
  rw [hw1] at hb
  have hpa := parts_any w1 m.kind (hK.bel hb (Nat.le_refl _))
  rw [hp] at hpa
  have Hpa := Lib.hid hpa
  have HR := Lib.hid hR
  have HB := Lib.hid hb
  have HE := Lib.hid (fun w' => empty_bare w' hm 1)
  rw [he] at HE
  have HBa := Lib.hid (fun w' => bare_any w' m s 1 (parts_mem hp))
  obtain ⟨V, hV⟩ : ∃ V, Value.agg (mgc (bareM 1 m) (bareL 1 s)).toArray = V := ⟨_, rfl⟩
  rw [hV] at HE HBa
  have u0 : w1.cell? ⟨k, 0, none⟩ = some (.int .u64 (m.kind : Int)) := hR.at_ 0
  obtain ⟨X, hX⟩ : ∃ X, maxM m = X := ⟨_, rfl⟩
  have hr1 : decide ((64 : Int) < (s.rs.n : Int)) = false := decide_eq_false (by omega)
  have hx1 : decide ((4611686018427387903 : Int) < (X : Int)) = false := decide_eq_false (by omega)
  have HX := Lib.hid hX
  have HM := Lib.hid (hm.bel hb (Nat.le_refl _))
  have HO := Lib.hid (ok_1 m)
  clear hb hR hpa hK hp he hm hX hV hx hr
  unfold mgc u64 SA.v at hw1 ⊢
  go_enter Tryd.func45, Tryd.ntmps45
  go_upto_region 2 with (go_at_call 46; refine Hpa.out.mono ?_; rintro y w2 ⟨rfl, B2⟩)
  have hq := HR.out.bel B2
  have Hq := Lib.hid hq
  have Hrg2 := Lib.hid hq.rng
  clear hq
  go_upto_region 4 with (first
    | (refine L_loadG 31 _ rfl (by rfl) _ _ rfl _ _ Hrg2.out Tryd.underlying31 rfl iMsg ?_)
    | (go_at_call 53; refine (HBa.out w2).mono ?_; rintro y w3 ⟨rfl, B3⟩; have Hq3 := Lib.hid (Hq.out.bel B3))
    | (go_at_call 52; refine (HE.out w3).mono ?_; rintro y w4 ⟨rfl, B4⟩; have hq4 := Hq3.out.bel B4; have c12 : w4.cell? ⟨k, 12, none⟩ = some (.slice s.rs.a s.rs.n s.rs.c) := hq4.at_ 12; have c1 : w4.cell? ⟨k, 1, none⟩ = some (.int .u64 (m.id : Int)) := hq4.at_ 1; have c2 : w4.cell? ⟨k, 2, none⟩ = some (.int .u64 (m.alias : Int)) := hq4.at_ 2; have c11 : w4.cell? ⟨k, 11, none⟩ = some (.int .u64 (m.code : Int)) := hq4.at_ 11; have c13 : w4.cell? ⟨k, 13, none⟩ = some (.int .u64 (m.n : Int)) := hq4.at_ 13; have c14 : w4.cell? ⟨k, 14, none⟩ = some (.int .u64 (m.ver : Int)) := hq4.at_ 14; have c6 : w4.cell? ⟨k, 6, none⟩ = some (.int .u64 (m.sg : Int)) := hq4.at_ 6; have c7 : w4.cell? ⟨k, 7, none⟩ = some (.int .u64 (m.so : Int)) := hq4.at_ 7; have c8 : w4.cell? ⟨k, 8, none⟩ = some (.int .u64 (m.eg : Int)) := hq4.at_ 8; have c9 : w4.cell? ⟨k, 9, none⟩ = some (.int .u64 (m.eo : Int)) := hq4.at_ 9; have Hq4 := Lib.hid hq4; clear hq4)
    | (refine L_max9 rfl (by rfl) m rfl rfl rfl rfl rfl rfl rfl rfl rfl X HX.out ?_))
  have HB4 := Lib.hid (btr (btr (btr HB.out B2) B3) B4)
  have hm4 := ((HM.out.bel B2 (Nat.le_refl _)).bel B3 (Nat.le_refl _)).bel B4 (Nat.le_refl _)
  clear hm4 Hpa HR HB HE HBa u0 HX HM hr1 hx1 Hq Hrg2 B2 B3 B4 hw1 Hq4 c1 c2 c11 c12 c13 c14
  clear c6
  clear c7
  clear c8
  clear c9
  obtain ⟨kind, id, alias, name, prio, ord, sg, so, eg, eo, sm, code, reason, n, ver, vers⟩ := m
  obtain ⟨⟨na, nn, nc⟩, ⟨ra, rn, rc⟩, ⟨va, vn, vc⟩⟩ := s
  simp only [] at *
  go_wp2
  go_ret
  exact ⟨ret_bool (by rw [HO.out]), HB4.out⟩
theorem ok_4 (m : MG) : okM 4 m = (nameB m) := by simp [okM, bit]
set_option maxHeartbeats 8000000 in
theorem right_4 (w : World) (m : MG) (s : ML) (hm : MR w m s) (hK : KA w) (hp : partsS m.kind = some 4) (he : emptyM (bareM 4 m) = true) (hr : s.rs.n ≤ 64) (hx : maxM m ≤ 4611686018427387903) :
    Calls Tryd.prog 45 #[.agg (mgc m s).toArray] w fun e w' => e = .returned (.bool (okM 4 m)) ∧ Below w.heap.size w w' := by
  have hb := below_alloc w (.cells (mgc m s).toArray 31)
  have hR := CR.new w 31 (mgc m s)
  obtain ⟨w1, hw1⟩ : ∃ x, w.alloc (.cells (mgc m s).toArray 31) = x := ⟨_, rfl⟩
  obtain ⟨k, hk⟩ : ∃ k, w.heap.size = k := ⟨_, rfl⟩
  rw [hw1, hk] at hR
  rw [hw1] at hb
  have hpa := parts_any w1 m.kind (hK.bel hb (Nat.le_refl _))
  rw [hp] at hpa
  have Hpa := Lib.hid hpa
  have HR := Lib.hid hR
  have HB := Lib.hid hb
  have HE := Lib.hid (fun w' => empty_bare w' hm 4)
  rw [he] at HE
  have HBa := Lib.hid (fun w' => bare_any w' m s 4 (parts_mem hp))
  obtain ⟨V, hV⟩ : ∃ V, Value.agg (mgc (bareM 4 m) (bareL 4 s)).toArray = V := ⟨_, rfl⟩
  rw [hV] at HE HBa
  have u0 : w1.cell? ⟨k, 0, none⟩ = some (.int .u64 (m.kind : Int)) := hR.at_ 0
  obtain ⟨X, hX⟩ : ∃ X, maxM m = X := ⟨_, rfl⟩
  have hr1 : decide ((64 : Int) < (s.rs.n : Int)) = false := decide_eq_false (by omega)
  have hx1 : decide ((4611686018427387903 : Int) < (X : Int)) = false := decide_eq_false (by omega)
  have HX := Lib.hid hX
  have HM := Lib.hid (hm.bel hb (Nat.le_refl _))
  have HO := Lib.hid (ok_4 m)
  clear hb hR hpa hK hp he hm hX hV hx hr
  unfold mgc u64 SA.v at hw1 ⊢
  go_enter Tryd.func45, Tryd.ntmps45
  go_upto_region 2 with (go_at_call 46; refine Hpa.out.mono ?_; rintro y w2 ⟨rfl, B2⟩)
  have hq := HR.out.bel B2
  have Hq := Lib.hid hq
  have Hrg2 := Lib.hid hq.rng
  clear hq
  go_upto_region 4 with (first
    | (refine L_loadG 31 _ rfl (by rfl) _ _ rfl _ _ Hrg2.out Tryd.underlying31 rfl iMsg ?_)
    | (go_at_call 53; refine (HBa.out w2).mono ?_; rintro y w3 ⟨rfl, B3⟩; have Hq3 := Lib.hid (Hq.out.bel B3))
    | (go_at_call 52; refine (HE.out w3).mono ?_; rintro y w4 ⟨rfl, B4⟩; have hq4 := Hq3.out.bel B4; have c12 : w4.cell? ⟨k, 12, none⟩ = some (.slice s.rs.a s.rs.n s.rs.c) := hq4.at_ 12; have c1 : w4.cell? ⟨k, 1, none⟩ = some (.int .u64 (m.id : Int)) := hq4.at_ 1; have c2 : w4.cell? ⟨k, 2, none⟩ = some (.int .u64 (m.alias : Int)) := hq4.at_ 2; have c11 : w4.cell? ⟨k, 11, none⟩ = some (.int .u64 (m.code : Int)) := hq4.at_ 11; have c13 : w4.cell? ⟨k, 13, none⟩ = some (.int .u64 (m.n : Int)) := hq4.at_ 13; have c14 : w4.cell? ⟨k, 14, none⟩ = some (.int .u64 (m.ver : Int)) := hq4.at_ 14; have c6 : w4.cell? ⟨k, 6, none⟩ = some (.int .u64 (m.sg : Int)) := hq4.at_ 6; have c7 : w4.cell? ⟨k, 7, none⟩ = some (.int .u64 (m.so : Int)) := hq4.at_ 7; have c8 : w4.cell? ⟨k, 8, none⟩ = some (.int .u64 (m.eg : Int)) := hq4.at_ 8; have c9 : w4.cell? ⟨k, 9, none⟩ = some (.int .u64 (m.eo : Int)) := hq4.at_ 9; have Hq4 := Lib.hid hq4; clear hq4)
    | (refine L_max9 rfl (by rfl) m rfl rfl rfl rfl rfl rfl rfl rfl rfl X HX.out ?_))
  have HB4 := Lib.hid (btr (btr (btr HB.out B2) B3) B4)
  have hm4 := ((HM.out.bel B2 (Nat.le_refl _)).bel B3 (Nat.le_refl _)).bel B4 (Nat.le_refl _)
  have HNc := Lib.hid (name_cases hm4)
  have HN := Lib.hid hm4.nm
  have c3 : w4.cell? ⟨k, 3, none⟩ = some (.slice s.nm.a s.nm.n s.nm.c) := Hq4.out.at_ 3
  clear hm4 Hpa HR HB HE HBa u0 HX HM hr1 hx1 Hq Hrg2 B2 B3 B4 hw1 Hq4 c1 c2 c11 c12 c13 c14
  clear c6
  clear c7
  clear c8
  clear c9
  obtain ⟨kind, id, alias, name, prio, ord, sg, so, eg, eo, sm, code, reason, n, ver, vers⟩ := m
  obtain ⟨⟨na, nn, nc⟩, ⟨ra, rn, rc⟩, ⟨va, vn, vc⟩⟩ := s
  simp only [] at *
  rcases HNc.out with ⟨hz, e4⟩ | ⟨hz, e4⟩ | ⟨b, hz1, hz2, hb, hz, e4⟩ | ⟨b, hz1, hz2, hb, hz, e4⟩
  · have q0 : (((nn : Int) == 0) = true ∧ ((nn : Int) != 0) = false) := ⟨by simp <;> omega, by simp <;> omega⟩
    have E4 := Lib.hid e4
    clear e4 hz
    go_wp2
    go_ret
    exact ⟨ret_bool (by rw [HO.out]; simp [E4.out]), HB4.out⟩
  · have q0 : (((nn : Int) == 0) = false ∧ ((nn : Int) != 0) = true) := ⟨by simp <;> omega, by simp <;> omega⟩
    have q1 : decide ((32 : Int) < (nn : Int)) = true := decide_eq_true (by omega)
    have E4 := Lib.hid e4
    clear e4 hz
    go_wp2
    go_ret
    exact ⟨ret_bool (by rw [HO.out]; simp [E4.out]), HB4.out⟩
  · have q0 : (((nn : Int) == 0) = false ∧ ((nn : Int) != 0) = true) := ⟨by simp <;> omega, by simp <;> omega⟩
    have q1 : decide ((32 : Int) < (nn : Int)) = false := decide_eq_false (by omega)
    have q2 : 0 ≤ (nn : Int) - 1 := by omega
    have q3 : (nn : Int) - 1 < (nn : Int) := by omega
    have q4 : (((b.toNat : Int) == 0) = true ∧ ((b.toNat : Int) != 0) = false) := ⟨by simp <;> omega, by simp <;> omega⟩
    have Hb := Lib.hid hb
    have E4 := Lib.hid e4
    clear e4 hz hb
    go_wp2_with (first | ((with_reducible refine gate_index ?_); refine LB_index tB HN.out b _ _ (by rfl) rfl .i64 _ rfl rfl (by omega) (by omega) (by rw [show ((nn : Int) - 1).toNat = nn - 1 by omega]; exact Hb.out) ?_; intro q hq))
    go_ret
    exact ⟨ret_bool (by rw [HO.out]; simp [E4.out]), HB4.out⟩
  · have q0 : (((nn : Int) == 0) = false ∧ ((nn : Int) != 0) = true) := ⟨by simp <;> omega, by simp <;> omega⟩
    have q1 : decide ((32 : Int) < (nn : Int)) = false := decide_eq_false (by omega)
    have q2 : 0 ≤ (nn : Int) - 1 := by omega
    have q3 : (nn : Int) - 1 < (nn : Int) := by omega
    have q4 : (((b.toNat : Int) == 0) = false ∧ ((b.toNat : Int) != 0) = true) := ⟨by simp <;> omega, by simp <;> omega⟩
    have Hb := Lib.hid hb
    have E4 := Lib.hid e4
    clear e4 hz hb
    go_wp2_with (first | ((with_reducible refine gate_index ?_); refine LB_index tB HN.out b _ _ (by rfl) rfl .i64 _ rfl rfl (by omega) (by omega) (by rw [show ((nn : Int) - 1).toNat = nn - 1 by omega]; exact Hb.out) ?_; intro q hq))
    go_ret
    exact ⟨ret_bool (by rw [HO.out]; simp [E4.out]), HB4.out⟩
theorem ok_0 (m : MG) : okM 0 m = (true) := by simp [okM, bit]
set_option maxHeartbeats 8000000 in
theorem right_0 (w : World) (m : MG) (s : ML) (hm : MR w m s) (hK : KA w) (hp : partsS m.kind = some 0) (he : emptyM (bareM 0 m) = true) (hr : s.rs.n ≤ 64) (hx : maxM m ≤ 4611686018427387903) :
    Calls Tryd.prog 45 #[.agg (mgc m s).toArray] w fun e w' => e = .returned (.bool (okM 0 m)) ∧ Below w.heap.size w w' := by
  have hb := below_alloc w (.cells (mgc m s).toArray 31)
  have hR := CR.new w 31 (mgc m s)
  obtain ⟨w1, hw1⟩ : ∃ x, w.alloc (.cells (mgc m s).toArray 31) = x := ⟨_, rfl⟩
  obtain ⟨k, hk⟩ : ∃ k, w.heap.size = k := ⟨_, rfl⟩
  rw [hw1, hk] at hR
  rw [hw1] at hb
  have hpa := parts_any w1 m.kind (hK.bel hb (Nat.le_refl _))
  rw [hp] at hpa
  have Hpa := Lib.hid hpa
  have HR := Lib.hid hR
  have HB := Lib.hid hb
  have HE := Lib.hid (fun w' => empty_bare w' hm 0)
  rw [he] at HE
  have HBa := Lib.hid (fun w' => bare_any w' m s 0 (parts_mem hp))
  obtain ⟨V, hV⟩ : ∃ V, Value.agg (mgc (bareM 0 m) (bareL 0 s)).toArray = V := ⟨_, rfl⟩
  rw [hV] at HE HBa
  have u0 : w1.cell? ⟨k, 0, none⟩ = some (.int .u64 (m.kind : Int)) := hR.at_ 0
  obtain ⟨X, hX⟩ : ∃ X, maxM m = X := ⟨_, rfl⟩
  have hr1 : decide ((64 : Int) < (s.rs.n : Int)) = false := decide_eq_false (by omega)
  have hx1 : decide ((4611686018427387903 : Int) < (X : Int)) = false := decide_eq_false (by omega)
  have HX := Lib.hid hX
  have HM := Lib.hid (hm.bel hb (Nat.le_refl _))
  have HO := Lib.hid (ok_0 m)
  clear hb hR hpa hK hp he hm hX hV hx hr
  unfold mgc u64 SA.v at hw1 ⊢
  go_enter Tryd.func45, Tryd.ntmps45
  go_upto_region 2 with (go_at_call 46; refine Hpa.out.mono ?_; rintro y w2 ⟨rfl, B2⟩)
  have hq := HR.out.bel B2
  have Hq := Lib.hid hq
  have Hrg2 := Lib.hid hq.rng
  clear hq
  go_upto_region 4 with (first
    | (refine L_loadG 31 _ rfl (by rfl) _ _ rfl _ _ Hrg2.out Tryd.underlying31 rfl iMsg ?_)
    | (go_at_call 53; refine (HBa.out w2).mono ?_; rintro y w3 ⟨rfl, B3⟩; have Hq3 := Lib.hid (Hq.out.bel B3))
    | (go_at_call 52; refine (HE.out w3).mono ?_; rintro y w4 ⟨rfl, B4⟩; have hq4 := Hq3.out.bel B4; have c12 : w4.cell? ⟨k, 12, none⟩ = some (.slice s.rs.a s.rs.n s.rs.c) := hq4.at_ 12; have c1 : w4.cell? ⟨k, 1, none⟩ = some (.int .u64 (m.id : Int)) := hq4.at_ 1; have c2 : w4.cell? ⟨k, 2, none⟩ = some (.int .u64 (m.alias : Int)) := hq4.at_ 2; have c11 : w4.cell? ⟨k, 11, none⟩ = some (.int .u64 (m.code : Int)) := hq4.at_ 11; have c13 : w4.cell? ⟨k, 13, none⟩ = some (.int .u64 (m.n : Int)) := hq4.at_ 13; have c14 : w4.cell? ⟨k, 14, none⟩ = some (.int .u64 (m.ver : Int)) := hq4.at_ 14; have c6 : w4.cell? ⟨k, 6, none⟩ = some (.int .u64 (m.sg : Int)) := hq4.at_ 6; have c7 : w4.cell? ⟨k, 7, none⟩ = some (.int .u64 (m.so : Int)) := hq4.at_ 7; have c8 : w4.cell? ⟨k, 8, none⟩ = some (.int .u64 (m.eg : Int)) := hq4.at_ 8; have c9 : w4.cell? ⟨k, 9, none⟩ = some (.int .u64 (m.eo : Int)) := hq4.at_ 9; have Hq4 := Lib.hid hq4; clear hq4)
    | (refine L_max9 rfl (by rfl) m rfl rfl rfl rfl rfl rfl rfl rfl rfl X HX.out ?_))
  have HB4 := Lib.hid (btr (btr (btr HB.out B2) B3) B4)
  have hm4 := ((HM.out.bel B2 (Nat.le_refl _)).bel B3 (Nat.le_refl _)).bel B4 (Nat.le_refl _)
  clear hm4 Hpa HR HB HE HBa u0 HX HM hr1 hx1 Hq Hrg2 B2 B3 B4 hw1 Hq4 c1 c2 c11 c12 c13 c14
  clear c6
  clear c7
  clear c8
  clear c9
  obtain ⟨kind, id, alias, name, prio, ord, sg, so, eg, eo, sm, code, reason, n, ver, vers⟩ := m
  obtain ⟨⟨na, nn, nc⟩, ⟨ra, rn, rc⟩, ⟨va, vn, vc⟩⟩ := s
  simp only [] at *
  go_wp2
  go_ret
  exact ⟨ret_bool (by rw [HO.out]), HB4.out⟩
theorem ok_2048 (m : MG) : okM 2048 m = (true) := by simp [okM, bit]
set_option maxHeartbeats 8000000 in
theorem right_2048 (w : World) (m : MG) (s : ML) (hm : MR w m s) (hK : KA w) (hp : partsS m.kind = some 2048) (he : emptyM (bareM 2048 m) = true) (hr : s.rs.n ≤ 64) (hx : maxM m ≤ 4611686018427387903) :
    Calls Tryd.prog 45 #[.agg (mgc m s).toArray] w fun e w' => e = .returned (.bool (okM 2048 m)) ∧ Below w.heap.size w w' := by
  have hb := below_alloc w (.cells (mgc m s).toArray 31)
  have hR := CR.new w 31 (mgc m s)
  obtain ⟨w1, hw1⟩ : ∃ x, w.alloc (.cells (mgc m s).toArray 31) = x := ⟨_, rfl⟩
  obtain ⟨k, hk⟩ : ∃ k, w.heap.size = k := ⟨_, rfl⟩
  rw [hw1, hk] at hR
  rw [hw1] at hb
  have hpa := parts_any w1 m.kind (hK.bel hb (Nat.le_refl _))
  rw [hp] at hpa
  have Hpa := Lib.hid hpa
  have HR := Lib.hid hR
  have HB := Lib.hid hb
  have HE := Lib.hid (fun w' => empty_bare w' hm 2048)
  rw [he] at HE
  have HBa := Lib.hid (fun w' => bare_any w' m s 2048 (parts_mem hp))
  obtain ⟨V, hV⟩ : ∃ V, Value.agg (mgc (bareM 2048 m) (bareL 2048 s)).toArray = V := ⟨_, rfl⟩
  rw [hV] at HE HBa
  have u0 : w1.cell? ⟨k, 0, none⟩ = some (.int .u64 (m.kind : Int)) := hR.at_ 0
  obtain ⟨X, hX⟩ : ∃ X, maxM m = X := ⟨_, rfl⟩
  have hr1 : decide ((64 : Int) < (s.rs.n : Int)) = false := decide_eq_false (by omega)
  have hx1 : decide ((4611686018427387903 : Int) < (X : Int)) = false := decide_eq_false (by omega)
  have HX := Lib.hid hX
  have HM := Lib.hid (hm.bel hb (Nat.le_refl _))
  have HO := Lib.hid (ok_2048 m)
  clear hb hR hpa hK hp he hm hX hV hx hr
  unfold mgc u64 SA.v at hw1 ⊢
  go_enter Tryd.func45, Tryd.ntmps45
  go_upto_region 2 with (go_at_call 46; refine Hpa.out.mono ?_; rintro y w2 ⟨rfl, B2⟩)
  have hq := HR.out.bel B2
  have Hq := Lib.hid hq
  have Hrg2 := Lib.hid hq.rng
  clear hq
  go_upto_region 4 with (first
    | (refine L_loadG 31 _ rfl (by rfl) _ _ rfl _ _ Hrg2.out Tryd.underlying31 rfl iMsg ?_)
    | (go_at_call 53; refine (HBa.out w2).mono ?_; rintro y w3 ⟨rfl, B3⟩; have Hq3 := Lib.hid (Hq.out.bel B3))
    | (go_at_call 52; refine (HE.out w3).mono ?_; rintro y w4 ⟨rfl, B4⟩; have hq4 := Hq3.out.bel B4; have c12 : w4.cell? ⟨k, 12, none⟩ = some (.slice s.rs.a s.rs.n s.rs.c) := hq4.at_ 12; have c1 : w4.cell? ⟨k, 1, none⟩ = some (.int .u64 (m.id : Int)) := hq4.at_ 1; have c2 : w4.cell? ⟨k, 2, none⟩ = some (.int .u64 (m.alias : Int)) := hq4.at_ 2; have c11 : w4.cell? ⟨k, 11, none⟩ = some (.int .u64 (m.code : Int)) := hq4.at_ 11; have c13 : w4.cell? ⟨k, 13, none⟩ = some (.int .u64 (m.n : Int)) := hq4.at_ 13; have c14 : w4.cell? ⟨k, 14, none⟩ = some (.int .u64 (m.ver : Int)) := hq4.at_ 14; have c6 : w4.cell? ⟨k, 6, none⟩ = some (.int .u64 (m.sg : Int)) := hq4.at_ 6; have c7 : w4.cell? ⟨k, 7, none⟩ = some (.int .u64 (m.so : Int)) := hq4.at_ 7; have c8 : w4.cell? ⟨k, 8, none⟩ = some (.int .u64 (m.eg : Int)) := hq4.at_ 8; have c9 : w4.cell? ⟨k, 9, none⟩ = some (.int .u64 (m.eo : Int)) := hq4.at_ 9; have Hq4 := Lib.hid hq4; clear hq4)
    | (refine L_max9 rfl (by rfl) m rfl rfl rfl rfl rfl rfl rfl rfl rfl X HX.out ?_))
  have HB4 := Lib.hid (btr (btr (btr HB.out B2) B3) B4)
  have hm4 := ((HM.out.bel B2 (Nat.le_refl _)).bel B3 (Nat.le_refl _)).bel B4 (Nat.le_refl _)
  clear hm4 Hpa HR HB HE HBa u0 HX HM hr1 hx1 Hq Hrg2 B2 B3 B4 hw1 Hq4 c1 c2 c11 c12 c13 c14
  clear c6
  clear c7
  clear c8
  clear c9
  obtain ⟨kind, id, alias, name, prio, ord, sg, so, eg, eo, sm, code, reason, n, ver, vers⟩ := m
  obtain ⟨⟨na, nn, nc⟩, ⟨ra, rn, rc⟩, ⟨va, vn, vc⟩⟩ := s
  simp only [] at *
  go_wp2
  go_ret
  exact ⟨ret_bool (by rw [HO.out]), HB4.out⟩
end Go.Proofs.YtokgpnkooigamaaDoor
