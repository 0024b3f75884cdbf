/- (*ring.state).block: one more block. -/
import Derived.Test.YtlncnjcbgfeaoaaDoorG0
set_option maxRecDepth 100000
set_option linter.unusedVariables false
namespace Go.Proofs.YtlncnjcbgfeaoaaDoor
open Go.RowKit
set_option maxHeartbeats 4000000 in
theorem block_any (w : World) {sb : Nat} {st : TypeId} {s0 s1 s2 s3 s4 s5 s6 s7 : Nat} {a : Option Addr} {c : Nat} {p : List UInt8} (hs : AR w sb st [s0, s1, s2, s3, s4, s5, s6, s7]) (hb8 : ∀ x ∈ [s0, s1, s2, s3, s4, s5, s6, s7], x < 4294967296) (hp : BS w a 64 c p) (hK : ∀ (j x : Nat), kS[j]? = some x → w.cell? ⟨3, j, none⟩ = some (.int .u32 (x : Int))) :
    Calls Tryd.prog 85 #[.pointer (some ⟨sb, 0, none⟩), .slice a 64 c] w fun e w' => (∃ v, e = .returned v) ∧ AR w' sb st (blockS [s0, s1, s2, s3, s4, s5, s6, s7] p) ∧ w.grownBy w' (some sb) := by
  have HK := Lib.hid hK
  clear hK
  have hpl := BS.len hp
  have hpc := RS.le hp
  have hpm := RS.max hp
  unfold maxLen at hpm
  go_enter Tryd.func85, Tryd.ntmps85
  go_wp2
  generalize hW : w.alloc _ = W
  have hA0 : AR W w.heap.size 155 (filled p 0) := by rw [← hW]; exact heap_alloc_new w _
  have hg0 : w.grownBy W none := by rw [← hW]; exact World.grownBy_alloc w _ _
  clear hW
  have hsz := hg0.size
  have hlt0 := hA0.lt
  have hs0 := hs.grown hg0 (by simp)
  have hp0 : BS W a 64 c p := RS.grown hp hg0 (by simp)
  have hsb := hs.lt
  go_loopw [16] (fun i wr => ∃ j : Nat, j ≤ 16 ∧ i = .int .i64 (j : Int) ∧ AR wr w.heap.size 155 (filled p j) ∧ W.grownBy wr (some w.heap.size)) (fun i _ => 16 - (intOf i).toNat)
  case atStart => exact ⟨0, by omega, rfl, hA0, World.grownBy.refl W _⟩
  case round =>
    obtain ⟨j, hj, rfl, hA, hg⟩ := hrel
    by_cases hlt : j < 16
    · have hpr : BS wr a 64 c p := by
        refine RS.keepb hp0 fun ad ha hb => hg.block _ hb ?_
        intro he
        obtain ⟨b, o, h1, h2⟩ := hp.at_ (by omega)
        have hx := (hp.2.2.2.2.2 ad ha)
        have := RS.block_lt hp ha (by omega) (by omega)
        simp at he; omega
      obtain ⟨x0, x1, x2, x3, r, hd⟩ := drop4 p j (by omega)
      have hset := filled_set p j hlt
      rw [hd] at hset
      have hlen := filled_len p j hj
      obtain ⟨v, hv⟩ : ∃ v, (filled p j)[j]? = some v := ⟨_, List.getElem?_eq_getElem (by omega)⟩
      have q1 := hA.cell j v hv
      have q2 := hA.fr j
      have HS := Lib.hid hset
      have HD := Lib.hid hd
      clear hset hd hv
      go_wp2_with (first
        | (refine LB_slice_l tB hpr (4 * j) _ _ rfl rfl _ _ rfl rfl (by omega) (by omega) ?_; intro a' hx1)
        | (go_at_call 99; refine (four_any _ hx1 x0 x1 x2 x3 r HD.out).mono ?_; rintro e w2 ⟨rfl, mm, rfl⟩))
      have hA2 := (hA.drewN mm).set_ j (be4 [x0, x1, x2, x3])
      rw [show (filled p j).set j (be4 [x0, x1, x2, x3]) = filled p (j + 1) from HS.out] at hA2
      exact ⟨⟨j + 1, by omega, by go_num, hA2, grown_trans (grown_drewN hg mm) (grownBy_setCell _ _ _)⟩, by simp [intOf]; omega⟩
    · obtain rfl : j = 16 := by omega
      rw [show ((16 : Nat) : Int) = 16 from rfl]
      rw [grownW_start] at hA
      obtain ⟨W1, rfl⟩ : ∃ W1, W1 = wr := ⟨wr, rfl⟩
      go_wp2
      go_loopw [6] (fun i wr => ∃ j : Nat, 16 ≤ j ∧ j ≤ 64 ∧ i = .int .i64 (j : Int) ∧ AR wr w.heap.size 155 (grownW p j) ∧ W.grownBy wr (some w.heap.size)) (fun i _ => 64 - (intOf i).toNat)
      case atStart => exact ⟨16, by omega, by omega, rfl, hA, hg⟩
      case round =>
        obtain ⟨j, hj16, hj, rfl, hA, hg⟩ := hrel
        by_cases hlt : j < 64
        · have g16 := hA.cell _ _ (grownW_get p j (j - 16) hj16 (by omega))
          have g15 := hA.cell _ _ (grownW_get p j (j - 15) hj16 (by omega))
          have g7 := hA.cell _ _ (grownW_get p j (j - 7) hj16 (by omega))
          have g2 := hA.cell _ _ (grownW_get p j (j - 2) hj16 (by omega))
          have hset := grownW_set p j hj16 hlt
          have l16 := sched_getD_lt p (j - 16) (j - 16)
          have l15 := sched_getD_lt p (j - 16) (j - 15)
          have l7 := sched_getD_lt p (j - 16) (j - 7)
          have l2 := sched_getD_lt p (j - 16) (j - 2)
          have hlen := grownW_len p j hj16 (by omega)
          obtain ⟨v, hv⟩ : ∃ v, (grownW p j)[j]? = some v := ⟨_, List.getElem?_eq_getElem (by omega)⟩
          have q1 := hA.cell j v hv
          have q2 := hA.fr j
          generalize (sched p (j - 16)).getD (j - 16) 0 = x16 at *
          generalize (sched p (j - 16)).getD (j - 15) 0 = x15 at *
          generalize (sched p (j - 16)).getD (j - 7) 0 = x7 at *
          generalize (sched p (j - 16)).getD (j - 2) 0 = x2 at *
          have HS := Lib.hid hset
          clear hset hv hlen
          have i15 : ((j : Int) - 15) = ((j - 15 : Nat) : Int) := by omega
          have i16 : ((j : Int) - 16) = ((j - 16 : Nat) : Int) := by omega
          have i7 : ((j : Int) - 7) = ((j - 7 : Nat) : Int) := by omega
          have i2 : ((j : Int) - 2) = ((j - 2 : Nat) : Int) := by omega
          go_wp2
          go_quiet (fail)
          have e0 := sg0_int x15 l15
          have e1 := sg1_int x2 l2
          have m0 := sg0_lt x15 l15
          have m1 := sg1_lt x2 l2
          go_wp2_with (first
            | (go_at_call 100; (with_reducible refine (rot_7 _ x15 l15).mono ?_); rintro e w' ⟨rfl, rfl⟩)
            | (go_at_call 100; (with_reducible refine (rot_18 _ x15 l15).mono ?_); rintro e w' ⟨rfl, rfl⟩)
            | (go_at_call 100; (with_reducible refine (rot_17 _ x2 l2).mono ?_); rintro e w' ⟨rfl, rfl⟩)
            | (go_at_call 100; (with_reducible refine (rot_19 _ x2 l2).mono ?_); rintro e w' ⟨rfl, rfl⟩))
          go_region
          have hval : (((x16 + sg0 x15 + x7 + sg1 x2) % 4294967296 : Nat) : Int) = ((x16 : Int) + (sg0 x15 : Int) + (x7 : Int) + (sg1 x2 : Int)) % 4294967296 := by omega
          have hA2 := (hA.drewN (nq + 1)).set_ j ((x16 + sg0 x15 + x7 + sg1 x2) % 4294967296)
          rw [HS.out, hval] at hA2
          have hg2 := grown_trans (grown_drewN hg (nq + 1)) (grownBy_setCell (wr.drewN (nq + 1)) ⟨w.heap.size, j, none⟩ (.int .u32 (((x16 : Int) + (sg0 x15 : Int) + (x7 : Int) + (sg1 x2 : Int)) % 4294967296)))
          clear hval q1 q2 g16 g15 g7 g2 hA
          go_wp2
          go_roundw
          case rel => exact ⟨j + 1, by omega, by omega, by go_num, hA2, hg2⟩
          case measure => simp [intOf]; omega
        · obtain rfl : j = 64 := by omega
          rw [show ((64 : Nat) : Int) = 64 from rfl]
          rw [grownW_end] at hA
          obtain ⟨W2, rfl⟩ : ∃ W2, W2 = wr := ⟨wr, rfl⟩
          have hs2 : AR W2 sb st [s0, s1, s2, s3, s4, s5, s6, s7] := hs0.grown hg (by simp; omega)
          have hz2 := hg.size
          have y0 := hs2.cell 0 _ rfl
          have y1 := hs2.cell 1 _ rfl
          have y2 := hs2.cell 2 _ rfl
          have y3 := hs2.cell 3 _ rfl
          have y4 := hs2.cell 4 _ rfl
          have y5 := hs2.cell 5 _ rfl
          have y6 := hs2.cell 6 _ rfl
          have y7 := hs2.cell 7 _ rfl
          go_wp2
          generalize hW3 : W2.alloc _ = W3
          have hV0 : AR W3 W2.heap.size 129 [s0, s1, s2, s3, s4, s5, s6, s7] := by rw [← hW3]; exact heap_alloc_new W2 _
          have hg3 : W2.grownBy W3 none := by rw [← hW3]; exact World.grownBy_alloc W2 _ _
          clear hW3 y0 y1 y2 y3 y4 y5 y6 y7
          have hw2 := hA.lt
          have hA3 := hA.grown hg3 (by simp)
          have hs3 := hs2.grown hg3 (by simp)
          have hK3' : ∀ (j x : Nat), kS[j]? = some x → W3.cell? ⟨3, j, none⟩ = some (.int .u32 (x : Int)) := fun j x hx =>
            hg3.cell (hg.cell (hg0.cell (HK.out j x hx) (by simp)) (by have := World.block_lt_of_cell? w _ (HK.out j x hx); simp at this ⊢; omega)) (by simp)
          have HK3 := Lib.hid hK3'
          clear hK3'
          obtain ⟨g9, hg9⟩ : ∃ g9, W2.heap.size = g9 := ⟨_, rfl⟩
          rw [hg9] at hV0
          rw [hg9]
          go_loopw [73] (fun i wr => ∃ (j : Nat) (vs : List Nat), j ≤ 64 ∧ i = .int .i64 (j : Int) ∧ VR p [s0, s1, s2, s3, s4, s5, s6, s7] W3 wr g9 j vs) (fun i _ => 64 - (intOf i).toNat)
          case atStart => exact ⟨0, _, by omega, rfl, ⟨rfl, hb8, rfl, hV0, World.grownBy.refl W3 _⟩⟩
          case round =>
            obtain ⟨j, vs, hj, rfl, HVR⟩ := hrel
            by_cases hlt : j < 64
            · obtain ⟨v0, v1, v2, v3, v4, v5, v6, v7, rfl⟩ := eight HVR.len
              have hV := HVR.ar
              have hg4 := HVR.gr
              have y0 := hV.cell 0 _ rfl
              have y4 := hV.cell 4 _ rfl
              go_wp2
              go_quiet (fail)
              go_wp2
              have b0 := HVR.lt v0 (by simp)
              have b4 := HVR.lt v4 (by simp)
              have b1 := HVR.lt v1 (by simp)
              have b2 := HVR.lt v2 (by simp)
              have b3 := HVR.lt v3 (by simp)
              have b5 := HVR.lt v5 (by simp)
              have b6 := HVR.lt v6 (by simp)
              have b7 := HVR.lt v7 (by simp)
              obtain ⟨kj, hkj⟩ : ∃ x, kS[j]? = some x := ⟨_, List.getElem?_eq_getElem (by rw [kS_len]; omega)⟩
              obtain ⟨wj, hwj⟩ : ∃ x, (schedS p)[j]? = some x := ⟨_, List.getElem?_eq_getElem (by rw [schedS_len]; omega)⟩
              have yk := hg4.cell (HK3.out j kj hkj) (by have := World.block_lt_of_cell? w _ (HK.out j kj hkj); simp at this ⊢; omega)
              have yw := hg4.cell (hA3.cell j wj hwj) (by simp; omega)
              have Hkj := Lib.hid hkj
              have Hwj := Lib.hid hwj
              clear hkj hwj
              clear y0 y4
              have hV5 := hV.drewN nq
              have hg5 := grown_drewN hg4 nq
              have yk5 := Eq.trans (show (wr.drewN nq).cell? _ = wr.cell? _ from rfl) yk
              have yw5 := Eq.trans (show (wr.drewN nq).cell? _ = wr.cell? _ from rfl) yw
              clear yk yw
              generalize wr.drewN nq = W5 at *
              have y0 := hV5.cell 0 _ rfl
              have y1 := hV5.cell 1 _ rfl
              have y2 := hV5.cell 2 _ rfl
              have y3 := hV5.cell 3 _ rfl
              have y4 := hV5.cell 4 _ rfl
              have y5 := hV5.cell 5 _ rfl
              have y6 := hV5.cell 6 _ rfl
              have y7 := hV5.cell 7 _ rfl
              go_quiet (first
                | (go_at_call 100; with_reducible exact Calls.quiet_of_same ((rot_6 _ v4 b4).mono fun e w' h => ⟨h.1, h.2.symm⟩))
                | (go_at_call 100; with_reducible exact Calls.quiet_of_same ((rot_11 _ v4 b4).mono fun e w' h => ⟨h.1, h.2.symm⟩))
                | (go_at_call 100; with_reducible exact Calls.quiet_of_same ((rot_25 _ v4 b4).mono fun e w' h => ⟨h.1, h.2.symm⟩)))
              rw [Sg1_int v4 b4, ch_int2 v4 v5 v6 b4 b5 b6]
              obtain ⟨X, hX⟩ : ∃ X, (v7 + Sg1 v4 + chS v4 v5 v6 + kj + wj) % 4294967296 = X := ⟨_, rfl⟩
              have hXi : ((((v7 : Int) + ((Sg1 v4 : Nat) : Int) + ((chS v4 v5 v6 : Nat) : Int) + (kj : Int)) % 4294967296 + (wj : Int)) % 4294967296) = (X : Int) := by omega
              rw [hXi]
              have HX := Lib.hid hX
              clear hX hXi yk5 yw5 y4 y5 y6 y7
              clear y0 y1 y2 y3
              have hV6 := hV5.drewN nq
              have hg6 := grown_drewN hg5 nq
              generalize W5.drewN nq = W6 at *
              have y0 := hV6.cell 0 _ rfl
              have y1 := hV6.cell 1 _ rfl
              have y2 := hV6.cell 2 _ rfl
              have y3 := hV6.cell 3 _ rfl
              have y4 := hV6.cell 4 _ rfl
              have y5 := hV6.cell 5 _ rfl
              have y6 := hV6.cell 6 _ rfl
              have y7 := hV6.cell 7 _ rfl
              go_upto_region 19 with (fail)
              go_quiet (first
                | (go_at_call 100; with_reducible exact Calls.quiet_of_same ((rot_2 _ v0 b0).mono fun e w' h => ⟨h.1, h.2.symm⟩))
                | (go_at_call 100; with_reducible exact Calls.quiet_of_same ((rot_13 _ v0 b0).mono fun e w' h => ⟨h.1, h.2.symm⟩))
                | (go_at_call 100; with_reducible exact Calls.quiet_of_same ((rot_22 _ v0 b0).mono fun e w' h => ⟨h.1, h.2.symm⟩)))
              rw [Sg0_int v0 b0, maj_int v0 v1 v2 b0 b1 b2]
              obtain ⟨Y, hY⟩ : ∃ Y, (Sg0 v0 + majS v0 v1 v2) % 4294967296 = Y := ⟨_, rfl⟩
              have hYi : ((((Sg0 v0 : Nat) : Int) + ((majS v0 v1 v2 : Nat) : Int)) % 4294967296) = (Y : Int) := by omega
              rw [hYi]
              have HY := Lib.hid hY
              clear hY hYi y0 y1 y2 y3 y4 y5 y6 y7
              have hV7 := hV6.drewN nq
              have hg7 := grown_drewN hg6 nq
              generalize W6.drewN nq = W7 at *
              have y0 := hV7.cell 0 _ rfl
              have y1 := hV7.cell 1 _ rfl
              have y2 := hV7.cell 2 _ rfl
              have y3 := hV7.cell 3 _ rfl
              have y4 := hV7.cell 4 _ rfl
              have y5 := hV7.cell 5 _ rfl
              have y6 := hV7.cell 6 _ rfl
              have y7 := hV7.cell 7 _ rfl
              have z0 := hV7.fr 0
              have z1 := hV7.fr 1
              have z2 := hV7.fr 2
              have z3 := hV7.fr 3
              have z4 := hV7.fr 4
              have z5 := hV7.fr 5
              have z6 := hV7.fr 6
              have z7 := hV7.fr 7
              go_wp2
              have e1 : (((X + Y) % 4294967296 : Nat) : Int) = ((X : Int) + (Y : Int)) % 4294967296 := by omega
              have e2 : (((v3 + X) % 4294967296 : Nat) : Int) = ((v3 : Int) + (X : Int)) % 4294967296 := by omega
              have h8 := (((((((hV7.set_ 0 ((X + Y) % 4294967296)).set_ 1 v0).set_ 2 v1).set_ 3 v2).set_ 4 ((v3 + X) % 4294967296)).set_ 5 v4).set_ 6 v5).set_ 7 v6
              rw [e1, e2] at h8
              refine ⟨⟨j + 1, [(X + Y) % 4294967296, v0, v1, v2, (v3 + X) % 4294967296, v4, v5, v6], by omega, by go_num, ⟨?_, ?_, rfl, h8, ?_⟩⟩, by simp [intOf]; omega⟩
              · rw [RV_succ p _ j kj wj Hkj.out Hwj.out, HVR.hv, ← HX.out, ← HY.out]; rfl
              · intro x hx
                simp only [List.mem_cons, List.not_mem_nil, or_false] at hx
                rcases hx with rfl | rfl | rfl | rfl | rfl | rfl | rfl | rfl <;> first | assumption | omega
              · exact grown_set (grown_set (grown_set (grown_set (grown_set (grown_set (grown_set (grown_set hg7 0 _) 1 _) 2 _) 3 _) 4 _) 5 _) 6 _) 7 _
            · obtain rfl : j = 64 := by omega
              rw [show ((64 : Nat) : Int) = 64 from rfl]
              obtain ⟨hv, hlt8, hlen8, hV, hg4⟩ := HVR
              obtain ⟨W4, rfl⟩ : ∃ W4, W4 = wr := ⟨wr, rfl⟩
              have hs4 := hs3.grown hg4 (by simp; omega)
              have HB := Lib.hid (blockS_eq _ _ _ hv)
              have Hv8 := Lib.hid hlt8
              have Hb8 := Lib.hid hb8
              clear hlt8 hb8 hv
              obtain ⟨ss, hss⟩ : ∃ ss, [s0, s1, s2, s3, s4, s5, s6, s7] = ss := ⟨_, rfl⟩
              have hssl : ss.length = 8 := by rw [← hss]; rfl
              have Hss := Lib.hid hss
              rw [hss] at hs4 Hb8
              have hgA : w.grownBy W4 (some sb) := grown_new (grown_trans (grown_new (grown_weak hg0) hg (by omega)) (grown_weak hg3)) hg4 (by omega)
              clear hss
              go_wp2
              go_loopw [155] (fun i wr => ∃ j : Nat, j ≤ 8 ∧ i = .int .i64 (j : Int) ∧ AR wr sb st (mixW ss vs j) ∧ W4.grownBy wr (some sb)) (fun i _ => 8 - (intOf i).toNat)
              case atStart => exact ⟨0, by omega, rfl, by rw [mixW_zero]; exact hs4, World.grownBy.refl W4 _⟩
              case round =>
                obtain ⟨j, hj, rfl, hA, hgr⟩ := hrel
                by_cases hlt : j < 8
                · obtain ⟨x, hx⟩ : ∃ x, ss[j]? = some x := ⟨_, List.getElem?_eq_getElem (by omega)⟩
                  obtain ⟨y, hy⟩ : ∃ y, vs[j]? = some y := ⟨_, List.getElem?_eq_getElem (by omega)⟩
                  have q1 := hA.cell j x (by rw [mixW_get _ _ _ (by omega) (by omega)]; exact hx)
                  have q2 := hA.fr j
                  have q3 := (hV.grown hgr (by simp; omega)).cell j y hy
                  have hset := mixW_set ss vs j x y (by omega) hx hy
                  have HS := Lib.hid hset
                  have HL := Lib.hid hlen8
                  have HL2 := Lib.hid hssl
                  clear hset hx hy hlen8 hssl
                  have HA := Lib.hid hA
                  have Hgr := Lib.hid hgr
                  clear hgA HB Hv8 Hb8 Hss HL HL2 hgr hA hs4 hV hg4 hA3 hs3 hg3 HK HK3 hs2
                  go_upto_region 25 with (fail)
                  go_region
                  have hval : (((x + y) % 4294967296 : Nat) : Int) = ((x : Int) + (y : Int)) % 4294967296 := by omega
                  have hA2 := (HA.out.set_ j ((x + y) % 4294967296)).drew
                  rw [HS.out, hval] at hA2
                  have hg2 := grown_drew (grown_set Hgr.out j (.int .u32 (((x : Int) + (y : Int)) % 4294967296)))
                  clear hval q1 q2 q3
                  have HA2 := Lib.hid hA2
                  have Hg2 := Lib.hid hg2
                  clear hA2 hg2
                  go_wp2
                  go_roundw
                  case rel => exact ⟨j + 1, by omega, by go_num, HA2.out, Hg2.out⟩
                  case measure => simp [intOf]; omega
                · obtain rfl : j = 8 := by omega
                  rw [show ((8 : Nat) : Int) = 8 from rfl]
                  rw [mixW_all ss vs 8 hssl hlen8] at hA
                  have HF := Lib.hid (show AR wr sb st (blockS [s0, s1, s2, s3, s4, s5, s6, s7] p) ∧ w.grownBy wr (some sb) from ⟨by rw [HB.out, Hss.out]; exact hA, grown_trans hgA hgr⟩)
                  clear hgA HB Hv8 Hb8 Hss hgr hA hs4 hV hg4 hA3 hs3 hg3 HK HK3 hs2
                  go_wp2
                  go_end0
                  exact ⟨⟨_, rfl⟩, HF.out⟩
end Go.Proofs.YtlncnjcbgfeaoaaDoor
