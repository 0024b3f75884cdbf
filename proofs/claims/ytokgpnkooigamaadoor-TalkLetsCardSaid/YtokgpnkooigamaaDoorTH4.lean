/- word.right: its switch, for some values of parts. -/
import Derived.Test.YtokgpnkooigamaaDoorTH
set_option maxRecDepth 100000
set_option linter.unusedVariables false
namespace Go.Proofs.YtokgpnkooigamaaDoor
open Go.RowKit
theorem ok_10240 (m : MG) : okM 10240 m = (listB m) := by simp [okM, bit]
set_option maxHeartbeats 8000000 in
theorem right_10240 (w : World) (m : MG) (s : ML) (hm : MR w m s) (hK : KA w) (hp : partsS m.kind = some 10240) (he : emptyM (bareM 10240 m) = true) (hr : s.rs.n ≤ 64) (hx : maxM m ≤ 4611686018427387903) :
    Calls Tryd.prog 45 #[.agg (mgc m s).toArray] w fun e w' => e = .returned (.bool (okM 10240 m)) ∧ Below w.heap.size w w' := by
  have hb := below_alloc w (.cells (mgc m s).toArray 31)
  have hR := CR.new w 31 (mgc m s)
  obtain ⟨w1, hw1⟩ : ∃ x, w.alloc (.cells (mgc m s).toArray 31) = x := ⟨_, rfl⟩
  obtain ⟨k, hk⟩ : ∃ k, w.heap.size = k := ⟨_, rfl⟩
  rw [hw1, hk] at hR
  rw [hw1] at hb
  have hpa := parts_any w1 m.kind (hK.bel hb (Nat.le_refl _))
  rw [hp] at hpa
  have Hpa := Lib.hid hpa
  have HR := Lib.hid hR
  have HB := Lib.hid hb
  have HE := Lib.hid (fun w' => empty_bare w' hm 10240)
  rw [he] at HE
  have HBa := Lib.hid (fun w' => bare_any w' m s 10240 (parts_mem hp))
  obtain ⟨V, hV⟩ : ∃ V, Value.agg (mgc (bareM 10240 m) (bareL 10240 s)).toArray = V := ⟨_, rfl⟩
  rw [hV] at HE HBa
  have u0 : w1.cell? ⟨k, 0, none⟩ = some (.int .u64 (m.kind : Int)) := hR.at_ 0
  obtain ⟨X, hX⟩ : ∃ X, maxM m = X := ⟨_, rfl⟩
  have hr1 : decide ((64 : Int) < (s.rs.n : Int)) = false := decide_eq_false (by omega)
  have hx1 : decide ((4611686018427387903 : Int) < (X : Int)) = false := decide_eq_false (by omega)
  have HX := Lib.hid hX
  have HM := Lib.hid (hm.bel hb (Nat.le_refl _))
  have HO := Lib.hid (ok_10240 m)
  clear hb hR hpa hK hp he hm hX hV hx hr
  unfold mgc u64 SA.v at hw1 ⊢
  go_enter Tryd.func45, Tryd.ntmps45
  go_upto_region 2 with (go_at_call 46; refine Hpa.out.mono ?_; rintro y w2 ⟨rfl, B2⟩)
  have hq := HR.out.bel B2
  have Hq := Lib.hid hq
  have Hrg2 := Lib.hid hq.rng
  clear hq
  go_upto_region 4 with (first
    | (refine L_loadG 31 _ rfl (by rfl) _ _ rfl _ _ Hrg2.out Tryd.underlying31 rfl iMsg ?_)
    | (go_at_call 53; refine (HBa.out w2).mono ?_; rintro y w3 ⟨rfl, B3⟩; have Hq3 := Lib.hid (Hq.out.bel B3))
    | (go_at_call 52; refine (HE.out w3).mono ?_; rintro y w4 ⟨rfl, B4⟩; have hq4 := Hq3.out.bel B4; have c12 : w4.cell? ⟨k, 12, none⟩ = some (.slice s.rs.a s.rs.n s.rs.c) := hq4.at_ 12; have c1 : w4.cell? ⟨k, 1, none⟩ = some (.int .u64 (m.id : Int)) := hq4.at_ 1; have c2 : w4.cell? ⟨k, 2, none⟩ = some (.int .u64 (m.alias : Int)) := hq4.at_ 2; have c11 : w4.cell? ⟨k, 11, none⟩ = some (.int .u64 (m.code : Int)) := hq4.at_ 11; have c13 : w4.cell? ⟨k, 13, none⟩ = some (.int .u64 (m.n : Int)) := hq4.at_ 13; have c14 : w4.cell? ⟨k, 14, none⟩ = some (.int .u64 (m.ver : Int)) := hq4.at_ 14; have c6 : w4.cell? ⟨k, 6, none⟩ = some (.int .u64 (m.sg : Int)) := hq4.at_ 6; have c7 : w4.cell? ⟨k, 7, none⟩ = some (.int .u64 (m.so : Int)) := hq4.at_ 7; have c8 : w4.cell? ⟨k, 8, none⟩ = some (.int .u64 (m.eg : Int)) := hq4.at_ 8; have c9 : w4.cell? ⟨k, 9, none⟩ = some (.int .u64 (m.eo : Int)) := hq4.at_ 9; have Hq4 := Lib.hid hq4; clear hq4)
    | (refine L_max9 rfl (by rfl) m rfl rfl rfl rfl rfl rfl rfl rfl rfl X HX.out ?_))
  have HB4 := Lib.hid (btr (btr (btr HB.out B2) B3) B4)
  have hm4 := ((HM.out.bel B2 (Nat.le_refl _)).bel B3 (Nat.le_refl _)).bel B4 (Nat.le_refl _)
  have HV := Lib.hid hm4.vs
  have Hvl := Lib.hid hm4.n3
  have hv3 := hm4.l3
  have c15 : w4.cell? ⟨k, 15, none⟩ = some (.slice s.vs.a s.vs.n s.vs.c) := Hq4.out.at_ 15
  clear hm4 Hpa HR HB HE HBa u0 HX HM hr1 hx1 Hq Hrg2 B2 B3 B4 hw1 Hq4 c1 c2 c11 c12 c13 c14
  clear c6
  clear c7
  clear c8
  clear c9
  obtain ⟨kind, id, alias, name, prio, ord, sg, so, eg, eo, sm, code, reason, n, ver, vers⟩ := m
  obtain ⟨⟨na, nn, nc⟩, ⟨ra, rn, rc⟩, ⟨va, vn, vc⟩⟩ := s
  simp only [] at *
  by_cases g8 : vn = 0
  · have q0 : (((vn : Int) == 0) = true ∧ ((vn : Int) != 0) = false) := ⟨by simp <;> omega, by simp <;> omega⟩
    go_wp2
    go_ret
    exact ⟨ret_bool (by rw [HO.out]; simp [listB, Hvl.out, g8]), HB4.out⟩
  · have q0 : (((vn : Int) == 0) = false ∧ ((vn : Int) != 0) = true) := ⟨by simp <;> omega, by simp <;> omega⟩
    by_cases g9 : vn ≤ 8
    · have q1 : decide ((8 : Int) < (vn : Int)) = false := decide_eq_false (by omega)
      have hmax := Lib.hid (max_any w4 HV.out (by omega) (by omega))
      obtain ⟨Y, hY⟩ : ∃ Y, maxI vers vn = Y := ⟨_, rfl⟩
      rw [hY] at hmax
      have HY := Lib.hid hY
      clear hY
      by_cases g10 : Y ≤ 4611686018427387903
      · have q2 : decide ((4611686018427387903 : Int) < (Y : Int)) = false := decide_eq_false (by omega)
        go_wp2_with (first | (go_at_call 55; refine hmax.out.mono ?_; rintro y w5 ⟨rfl, rfl⟩))
        go_ret
        exact ⟨ret_bool (by rw [HO.out]; have := HY.out; simp [listB, Hvl.out, HY.out, g9, g10]; omega), HB4.out⟩
      · have q2 : decide ((4611686018427387903 : Int) < (Y : Int)) = true := decide_eq_true (by omega)
        go_wp2_with (first | (go_at_call 55; refine hmax.out.mono ?_; rintro y w5 ⟨rfl, rfl⟩))
        go_ret
        exact ⟨ret_bool (by rw [HO.out]; have := HY.out; simp [listB, Hvl.out, HY.out]; omega), HB4.out⟩
    · have q1 : decide ((8 : Int) < (vn : Int)) = true := decide_eq_true (by omega)
      go_wp2
      go_ret
      exact ⟨ret_bool (by rw [HO.out]; simp [listB, Hvl.out]; omega), HB4.out⟩
theorem ok_6144 (m : MG) : okM 6144 m = (true) := by simp [okM, bit]
set_option maxHeartbeats 8000000 in
theorem right_6144 (w : World) (m : MG) (s : ML) (hm : MR w m s) (hK : KA w) (hp : partsS m.kind = some 6144) (he : emptyM (bareM 6144 m) = true) (hr : s.rs.n ≤ 64) (hx : maxM m ≤ 4611686018427387903) :
    Calls Tryd.prog 45 #[.agg (mgc m s).toArray] w fun e w' => e = .returned (.bool (okM 6144 m)) ∧ Below w.heap.size w w' := by
  have hb := below_alloc w (.cells (mgc m s).toArray 31)
  have hR := CR.new w 31 (mgc m s)
  obtain ⟨w1, hw1⟩ : ∃ x, w.alloc (.cells (mgc m s).toArray 31) = x := ⟨_, rfl⟩
  obtain ⟨k, hk⟩ : ∃ k, w.heap.size = k := ⟨_, rfl⟩
  rw [hw1, hk] at hR
  rw [hw1] at hb
  have hpa := parts_any w1 m.kind (hK.bel hb (Nat.le_refl _))
  rw [hp] at hpa
  have Hpa := Lib.hid hpa
  have HR := Lib.hid hR
  have HB := Lib.hid hb
  have HE := Lib.hid (fun w' => empty_bare w' hm 6144)
  rw [he] at HE
  have HBa := Lib.hid (fun w' => bare_any w' m s 6144 (parts_mem hp))
  obtain ⟨V, hV⟩ : ∃ V, Value.agg (mgc (bareM 6144 m) (bareL 6144 s)).toArray = V := ⟨_, rfl⟩
  rw [hV] at HE HBa
  have u0 : w1.cell? ⟨k, 0, none⟩ = some (.int .u64 (m.kind : Int)) := hR.at_ 0
  obtain ⟨X, hX⟩ : ∃ X, maxM m = X := ⟨_, rfl⟩
  have hr1 : decide ((64 : Int) < (s.rs.n : Int)) = false := decide_eq_false (by omega)
  have hx1 : decide ((4611686018427387903 : Int) < (X : Int)) = false := decide_eq_false (by omega)
  have HX := Lib.hid hX
  have HM := Lib.hid (hm.bel hb (Nat.le_refl _))
  have HO := Lib.hid (ok_6144 m)
  clear hb hR hpa hK hp he hm hX hV hx hr
  unfold mgc u64 SA.v at hw1 ⊢
  go_enter Tryd.func45, Tryd.ntmps45
  go_upto_region 2 with (go_at_call 46; refine Hpa.out.mono ?_; rintro y w2 ⟨rfl, B2⟩)
  have hq := HR.out.bel B2
  have Hq := Lib.hid hq
  have Hrg2 := Lib.hid hq.rng
  clear hq
  go_upto_region 4 with (first
    | (refine L_loadG 31 _ rfl (by rfl) _ _ rfl _ _ Hrg2.out Tryd.underlying31 rfl iMsg ?_)
    | (go_at_call 53; refine (HBa.out w2).mono ?_; rintro y w3 ⟨rfl, B3⟩; have Hq3 := Lib.hid (Hq.out.bel B3))
    | (go_at_call 52; refine (HE.out w3).mono ?_; rintro y w4 ⟨rfl, B4⟩; have hq4 := Hq3.out.bel B4; have c12 : w4.cell? ⟨k, 12, none⟩ = some (.slice s.rs.a s.rs.n s.rs.c) := hq4.at_ 12; have c1 : w4.cell? ⟨k, 1, none⟩ = some (.int .u64 (m.id : Int)) := hq4.at_ 1; have c2 : w4.cell? ⟨k, 2, none⟩ = some (.int .u64 (m.alias : Int)) := hq4.at_ 2; have c11 : w4.cell? ⟨k, 11, none⟩ = some (.int .u64 (m.code : Int)) := hq4.at_ 11; have c13 : w4.cell? ⟨k, 13, none⟩ = some (.int .u64 (m.n : Int)) := hq4.at_ 13; have c14 : w4.cell? ⟨k, 14, none⟩ = some (.int .u64 (m.ver : Int)) := hq4.at_ 14; have c6 : w4.cell? ⟨k, 6, none⟩ = some (.int .u64 (m.sg : Int)) := hq4.at_ 6; have c7 : w4.cell? ⟨k, 7, none⟩ = some (.int .u64 (m.so : Int)) := hq4.at_ 7; have c8 : w4.cell? ⟨k, 8, none⟩ = some (.int .u64 (m.eg : Int)) := hq4.at_ 8; have c9 : w4.cell? ⟨k, 9, none⟩ = some (.int .u64 (m.eo : Int)) := hq4.at_ 9; have Hq4 := Lib.hid hq4; clear hq4)
    | (refine L_max9 rfl (by rfl) m rfl rfl rfl rfl rfl rfl rfl rfl rfl X HX.out ?_))
  have HB4 := Lib.hid (btr (btr (btr HB.out B2) B3) B4)
  have hm4 := ((HM.out.bel B2 (Nat.le_refl _)).bel B3 (Nat.le_refl _)).bel B4 (Nat.le_refl _)
  clear hm4 Hpa HR HB HE HBa u0 HX HM hr1 hx1 Hq Hrg2 B2 B3 B4 hw1 Hq4 c1 c2 c11 c12 c13 c14
  clear c6
  clear c7
  clear c8
  clear c9
  obtain ⟨kind, id, alias, name, prio, ord, sg, so, eg, eo, sm, code, reason, n, ver, vers⟩ := m
  obtain ⟨⟨na, nn, nc⟩, ⟨ra, rn, rc⟩, ⟨va, vn, vc⟩⟩ := s
  simp only [] at *
  go_wp2
  go_ret
  exact ⟨ret_bool (by rw [HO.out]), HB4.out⟩
end Go.Proofs.YtokgpnkooigamaaDoor
