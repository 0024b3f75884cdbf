/- ref02.Mac. -/
import Derived.Test.YtkhcpnmbhbhcgaaDoorYar
import Derived.Test.YtkhcpnmbhbhcgaaDoorYai
set_option maxRecDepth 100000
set_option linter.unusedVariables false
namespace Go.Proofs.YtkhcpnmbhbhcgaaDoor
open Go.RowKit
theorem OW.apart {w : World} {b1 b2 : Nat} {e1 e2 : TypeId} {a1 a2 : Option Addr} {n1 c1 n2 c2 : Nat} {v1 v2 : List Value} {x y : Value} (h1 : OW w b1 e1 1 a1 n1 c1 v1) (h2 : OW w b2 e2 1 a2 n2 c2 v2) (hx : v1[0]? = some x) (hy : v2[0]? = some y) (hne : x ≠ y) :
    ∀ p q, a1 = some p → a2 = some q → p.block ≠ q.block := by
  intro p q hp hq he
  subst hp; subst hq
  rcases h1.shape with ⟨h0, _⟩ | ⟨g1, _, h0, -⟩
  · cases h0
  · rcases h2.shape with ⟨h3, _⟩ | ⟨g2, _, h3, -⟩
    · cases h3
    · cases h0; cases h3
      have e1 := h1.cell_ 0 x hx
      have e2 := h2.cell_ 0 y hy
      obtain rfl : g1 = g2 := he
      rw [e1] at e2
      exact hne (by simpa using e2)
theorem xor_nz (x : UInt8) : B (x ^^^ 54) ≠ B (x ^^^ 92) := by
  intro h
  have h1 : (x ^^^ 54).toNat = (x ^^^ 92).toNat := by
    unfold B at h
    injection h with _ h2
    exact Int.ofNat.inj h2
  have h2 : x ^^^ 54 = x ^^^ 92 := UInt8.toNat_inj.1 h1
  have h3 : x ^^^ (x ^^^ 54) = x ^^^ (x ^^^ 92) := by rw [h2]
  rw [← UInt8.xor_assoc, ← UInt8.xor_assoc, UInt8.xor_self, UInt8.zero_xor, UInt8.zero_xor] at h3
  exact absurd h3 (by decide)
/-- the two keyed blocks while they grow -/
structure KR (W wr : World) (kz : List UInt8) (j : Nat) (a : Option Addr) (ca : Nat) (b : Option Addr) (cb : Nat) : Prop where
  oa : OW wr W.heap.size 5 1 a j ca (((kz.take j).map (· ^^^ 54)).map B)
  ob : OW wr W.heap.size 5 1 b j cb (((kz.take j).map (· ^^^ 92)).map B)
  bel : Below W.heap.size W wr
  nil : j = 0 → a = none ∧ b = none
theorem KR.apart {W wr : World} {kz : List UInt8} {j : Nat} {a : Option Addr} {ca : Nat} {b : Option Addr} {cb : Nat} (h : KR W wr kz j a ca b cb) (hl : kz.length = 64) :
    ∀ p q, a = some p → b = some q → p.block ≠ q.block := by
  intro p q hp hq
  rcases Nat.eq_zero_or_pos j with rfl | hj
  · have := (h.nil rfl).1; rw [this] at hp; cases hp
  · cases kz with
    | nil => simp at hl
    | cons x kz =>
      cases j with
      | zero => omega
      | succ j => exact OW.apart h.oa h.ob (x := B (x ^^^ 54)) (y := B (x ^^^ 92)) rfl rfl (xor_nz x) p q hp hq
theorem KR.next {W wr w0 w1 w1' w2 : World} {kz : List UInt8} {j : Nat} {a a1 : Option Addr} {ca c1 : Nat} {b b2 : Option Addr} {cb c2 : Nat} {y : UInt8} {v1 v2 : Value} (h : KR W wr kz j a ca b cb) (hl : kz.length = 64) (hj : kz[j]? = some y)
    (h0 : Below wr.heap.size wr w0) (o1 : OW w1 W.heap.size 5 1 a1 (j + 1) c1 (((kz.take j).map (· ^^^ 54)).map B ++ [v1])) (hv1 : v1 = B (y ^^^ 54)) (g1 : w0.grownBy w1 (a.map (·.block)))
    (h1 : Below w1.heap.size w1 w1') (o2 : OW w2 W.heap.size 5 1 b2 (j + 1) c2 (((kz.take j).map (· ^^^ 92)).map B ++ [v2])) (hv2 : v2 = B (y ^^^ 92)) (g2 : w1'.grownBy w2 (b.map (·.block))) :
    KR W w2 kz (j + 1) a1 c1 b2 c2 := by
  subst hv1; subst hv2
  have hs := h.bel.size
  have hs0 := h0.size
  have hs1 := g1.size
  have hs1' := h1.size
  have e1 : ((kz.take j).map (· ^^^ 54)).map B ++ [B (y ^^^ 54)] = ((kz.take (j + 1)).map (· ^^^ 54)).map B := by rw [List.take_add_one, hj]; simp
  have e2 : ((kz.take j).map (· ^^^ 92)).map B ++ [B (y ^^^ 92)] = ((kz.take (j + 1)).map (· ^^^ 92)).map B := by rw [List.take_add_one, hj]; simp
  have hb1 : OW w1 W.heap.size 5 1 b j cb (((kz.take j).map (· ^^^ 92)).map B) := (h.ob.below h0 (Nat.le_refl _)).grown g1 (fun ad ha => by
    cases a with
    | none => simp
    | some p => have := h.apart hl p ad rfl ha; simp; omega)
  have hap : ∀ p q, a1 = some p → b = some q → p.block ≠ q.block := by
    intro p q hp hq
    rcases Nat.eq_zero_or_pos j with rfl | hj0
    · have := (h.nil rfl).2; rw [this] at hq; cases hq
    · cases kz with
      | nil => simp at hl
      | cons x kz =>
        cases j with
        | zero => omega
        | succ j => exact OW.apart o1 hb1 (x := B (x ^^^ 54)) (y := B (x ^^^ 92)) rfl rfl (xor_nz x) p q hp hq
  have ha2 := (o1.below h1 (Nat.le_refl _)).grown g2 (fun ad ha => by
    cases b with
    | none => simp
    | some q => have := hap ad q ha rfl; simp; omega)
  rw [e1] at ha2
  rw [e2] at o2
  have B1 : Below W.heap.size W w1 := (h.bel.trans (h0.mono hs)).grown g1 (by omega) (row_ge (fun ad ha => (h.oa.base_le ha).1) (Nat.le_refl _))
  exact ⟨ha2, o2, (B1.trans (h1.mono (by omega))).grown g2 (by omega) (row_ge (fun ad ha => (h.ob.base_le ha).1) (Nat.le_refl _)), fun h => by omega⟩
set_option maxHeartbeats 4000000 in
theorem refMac_any (w : World) {a b : Option Addr} {n c m k : Nat} {key p : List UInt8} (hk : BS w a n c key) (hp : BS w b m k p) (hn : n ≤ 1099511627776) (hm : m ≤ 1099511627776 - 200) :
    Calls Tryd.prog 29 #[.slice a n c, .slice b m k] w fun e w' => ∃ a' c', e = .returned (.slice a' 32 c') ∧ OW w' w.heap.size 5 1 a' 32 c' ((macS key p).map B) ∧ Below w.heap.size w w' := by
  have Hk := Lib.hid hk
  have Hp := Lib.hid hp
  have hkl := Lib.hid (BS.len hk)
  have hpl := Lib.hid (BS.len hp)
  clear hk hp
  go_enter Tryd.func29, Tryd.ntmps29
  rcases Nat.lt_or_ge 64 n with hn64 | hn64
  · go_upto_region 4 with (go_at_call 28; refine (refSum_any _ key Hk.out hn).mono ?_; rintro e w1 ⟨a1, c1, rfl, o1, B1⟩)
    have hB1 := Lib.hid B1
    obtain ⟨kk, hkk⟩ : ∃ kk, shaS key = kk := ⟨_, rfl⟩
    have HKK := Lib.hid (show kk = (if 64 < key.length then shaS key else key) by rw [if_pos (by rw [hkl.out]; exact hn64)]; exact hkk.symm)
    rw [hkk] at o1
    have hb1 : BS w1 a1 32 c1 kk := o1.rs
    have hN : 32 ≤ 64 := by omega
    clear o1 B1 hkk
    have hkz := keyS_eq key kk HKK.out
    have hkkl := BS.len hb1
    obtain ⟨kz, hkze⟩ : ∃ kz, keyS key = kz := ⟨_, rfl⟩
    have hkzl := keyS_len key
    rw [hkze] at hkz hkzl
    have hp1 := RS.below Hp.out hB1.out (Nat.le_refl _)
    have hsz1 := hB1.out.size
    have hget : ∀ j : Nat, j < 32 → kz[j]? = kk[j]? := by
      intro j hj; rw [← hkz, List.getElem?_append_left (by omega)]
    have hzero : ∀ j : Nat, 32 ≤ j → j < 64 → kz[j]? = some 0 := by
      intro j hj1 hj2
      rw [← hkz, List.getElem?_append_right (by omega), List.drop_replicate, List.getElem?_replicate, if_pos (by omega)]
    have Hget := Lib.hid hget
    have Hzero := Lib.hid hzero
    have HKZ := Lib.hid hkze
    have Hkzl := Lib.hid hkzl
    have Hp1 := Lib.hid hp1
    have hR0 : KR w1 w1 kz 0 none 0 none 0 := ⟨OW_nil _ _ _ _, OW_nil _ _ _ _, Below.refl _ _, fun _ => ⟨rfl, rfl⟩⟩
    clear hkz hget hzero hkze hkzl hp1 HKK
    go_wp2
    go_loopw [5, 6, 14] (fun s5 s6 s14 wr => ∃ (j : Nat) (a : Option Addr) (ca : Nat) (b : Option Addr) (cb : Nat), j ≤ 64 ∧ s14 = .int .i64 (j : Int) ∧ s5 = .slice a j ca ∧ s6 = .slice b j cb ∧ KR w1 wr kz j a ca b cb) (fun _ _ s14 _ => 64 - (intOf s14).toNat)
    case atStart => exact ⟨0, none, 0, none, 0, by omega, rfl, rfl, rfl, hR0⟩
    case round =>
      obtain ⟨j, a2, c2, b2, d2, hj, rfl, rfl, rfl, hR⟩ := hrel
      clear hR0
      by_cases hlt : j < 64
      · have hszr := hR.bel.size
        have hbr := RS.below hb1 hR.bel (Nat.le_refl _)
        have HR := Lib.hid hR
        clear hR
        rcases Nat.lt_or_ge j 32 with hjn | hjn
        · obtain ⟨y, hy⟩ := BS.get hbr j hjn
          have hky := Lib.hid ((Hget.out j hjn).trans hy)
          have Hy := Lib.hid hy
          have x54 := Lib.hid (xor_u8 y 54 54 rfl)
          have x92 := Lib.hid (xor_u8 y 92 92 rfl)
          clear hy
          go_wp2_with (first
            | (refine LB_index tB hbr y _ _ rfl rfl _ _ rfl rfl (by omega) (by omega) (by simpa using Hy.out) ?_; intro qq hqq)
            | (at_builtin; refine L_append tB (HR.out.oa.alloc _) (RS_one _ _ _ rfl) _ _ rfl rfl rfl rfl (by omega) (by unfold maxLen; omega) (by simp; omega) ?_; intro a3 c3 w3 o3 g3; have hob := ((HR.out.ob.alloc _).grown g3 (fun ad ha => by
                  cases a2 with
                  | none => simp
                  | some p => have := HR.out.apart Hkzl.out p ad rfl ha; simp; omega)); have hs3 := g3.size)
            | (at_builtin; refine L_append tB (hob.alloc _) (RS_one _ _ _ rfl) _ _ rfl rfl rfl rfl (by omega) (by unfold maxLen; omega) (by simp at hs3 ⊢; omega) ?_; intro b4 d4 w4 o4 g4))
          have hN1 := HR.out.next Hkzl.out hky.out (below_alloc _ _) o3 x54.out g3 (below_alloc _ _) o4 x92.out g4
          clear o3 g3 o4 g4 hob hs3
          go_roundw
          case rel => exact ⟨j + 1, a3, c3, b4, d4, by omega, by go_num, rfl, rfl, hN1⟩
          case measure => simp [intOf]; omega
        · obtain ⟨y, hy⟩ : ∃ y : UInt8, y = 0 := ⟨_, rfl⟩
          have hky := Lib.hid (show kz[j]? = some y by rw [hy]; exact Hzero.out j hjn hlt)
          have hy0 : ((y.toNat : Nat) : Int) = 0 := by rw [hy]; rfl
          have Hy := Lib.hid hy
          have x54 := Lib.hid (xor_u8 y 54 54 rfl)
          have x92 := Lib.hid (xor_u8 y 92 92 rfl)
          rw [hy0] at x54 x92
          clear hy0
          clear hy
          go_wp2_with (first
            | (refine LB_index tB hbr y _ _ rfl rfl _ _ rfl rfl (by omega) (by omega) (by simpa using Hy.out) ?_; intro qq hqq)
            | (at_builtin; refine L_append tB (HR.out.oa.alloc _) (RS_one _ _ _ rfl) _ _ rfl rfl rfl rfl (by omega) (by unfold maxLen; omega) (by simp; omega) ?_; intro a3 c3 w3 o3 g3; have hob := ((HR.out.ob.alloc _).grown g3 (fun ad ha => by
                  cases a2 with
                  | none => simp
                  | some p => have := HR.out.apart Hkzl.out p ad rfl ha; simp; omega)); have hs3 := g3.size)
            | (at_builtin; refine L_append tB (hob.alloc _) (RS_one _ _ _ rfl) _ _ rfl rfl rfl rfl (by omega) (by unfold maxLen; omega) (by simp at hs3 ⊢; omega) ?_; intro b4 d4 w4 o4 g4))
          have hN1 := HR.out.next Hkzl.out hky.out (below_alloc _ _) o3 x54.out g3 (below_alloc _ _) o4 x92.out g4
          clear o3 g3 o4 g4 hob hs3
          go_roundw
          case rel => exact ⟨j + 1, a3, c3, b4, d4, by omega, by go_num, rfl, rfl, hN1⟩
          case measure => simp [intOf]; omega
      · obtain rfl : j = 64 := by omega
        rw [show ((64 : Nat) : Int) = 64 from rfl]
        have ha := hR.oa
        have hb := hR.ob
        rw [List.take_of_length_le (by rw [Hkzl.out]; omega)] at ha hb
        have hap := hR.apart Hkzl.out
        have hBr := hR.bel
        have hszr := hBr.size
        have hmac : macS key p = shaS (kz.map (· ^^^ 92) ++ shaS (kz.map (· ^^^ 54) ++ p)) := by rw [← HKZ.out]; rfl
        have Hmac := Lib.hid hmac
        clear hmac hR
        obtain ⟨x6, hx6⟩ : ∃ x6, kz.map (· ^^^ 54) = x6 := ⟨_, rfl⟩
        obtain ⟨x7, hx7⟩ : ∃ x7, kz.map (· ^^^ 92) = x7 := ⟨_, rfl⟩
        rw [hx6] at ha Hmac
        rw [hx7] at hb Hmac
        clear hx6 hx7
        have Ha := Lib.hid ha
        have Hb := Lib.hid hb
        have Hap := Lib.hid hap
        have HBr := Lib.hid hBr
        have hp2 := RS.below Hp1.out hBr (Nat.le_refl _)
        clear ha hb hap hBr
        go_wp2_with (first
          | (at_builtin; refine L_append tB Ha.out hp2 _ _ rfl rfl rfl rfl (by omega) (by unfold maxLen; omega) hszr ?_; intro a3 c3 w3 o3 g3; have hb3 := Hb.out.grown g3 (fun ad ha => by
                cases a2 with
                | none => simp
                | some p => have := Hap.out p ad rfl ha; simp; omega); have hs3 := g3.size; have ho3 : BS w3 a3 (64 + m) c3 (x6 ++ p) := by have := o3.rs; rw [← List.map_append] at this; exact this)
          | (go_at_call 28; (with_reducible refine (refSum_any _ (x6 ++ p) ho3 (by omega)).mono ?_); rintro e w4 ⟨a4, c4, rfl, o4, B4⟩; have hb4 := hb3.below B4 (Nat.le_refl _); have hs4 := B4.size)
          | (at_builtin; refine L_append tB hb4 o4.rs _ _ rfl rfl rfl rfl (by omega) (by unfold maxLen; omega) (by omega) ?_; intro a5 c5 w5 o5 g5; have hs5 := g5.size; have ho5 : BS w5 a5 (64 + 32) c5 (x7 ++ shaS (x6 ++ p)) := by have := o5.rs; rw [← List.map_append] at this; exact this)
          | (go_at_call 28; (with_reducible refine (refSum_any _ (x7 ++ shaS (x6 ++ p)) ho5 (by omega)).mono ?_); rintro e w6 ⟨a6, c6, rfl, o6, B6⟩))
        have hB3 : Below w.heap.size w w3 := (btrans2 hB1.out HBr.out).grown g3 (by omega) (row_ge (fun ad ha => (Ha.out.base_le ha).1) (by omega))
        have hB5 : Below w.heap.size w w5 := (btrans2 hB3 B4).grown g5 (by omega) (row_ge (fun ad ha => (Hb.out.base_le ha).1) (by omega))
        go_ret
        refine ⟨a6, c6, rfl, ?_, btrans2 hB5 B6⟩
        rw [Hmac.out]
        exact o6.mono hB5.size
  · go_upto_region 4 with (fail)
    have hB1 := Lib.hid (Below.refl w.heap.size w)
    obtain ⟨kk, hkk⟩ : ∃ kk, key = kk := ⟨_, rfl⟩
    have HKK := Lib.hid (show kk = (if 64 < key.length then shaS key else key) by rw [if_neg (by rw [hkl.out]; omega)]; exact hkk.symm)
    have hb1 := Hk.out
    have hN : n ≤ 64 := by omega
    rw [hkk] at hb1
    clear hkk
    have hkz := keyS_eq key kk HKK.out
    have hkkl := BS.len hb1
    obtain ⟨kz, hkze⟩ : ∃ kz, keyS key = kz := ⟨_, rfl⟩
    have hkzl := keyS_len key
    rw [hkze] at hkz hkzl
    have hp1 := RS.below Hp.out hB1.out (Nat.le_refl _)
    have hsz1 := hB1.out.size
    have hget : ∀ j : Nat, j < n → kz[j]? = kk[j]? := by
      intro j hj; rw [← hkz, List.getElem?_append_left (by omega)]
    have hzero : ∀ j : Nat, n ≤ j → j < 64 → kz[j]? = some 0 := by
      intro j hj1 hj2
      rw [← hkz, List.getElem?_append_right (by omega), List.drop_replicate, List.getElem?_replicate, if_pos (by omega)]
    have Hget := Lib.hid hget
    have Hzero := Lib.hid hzero
    have HKZ := Lib.hid hkze
    have Hkzl := Lib.hid hkzl
    have Hp1 := Lib.hid hp1
    have hR0 : KR w w kz 0 none 0 none 0 := ⟨OW_nil _ _ _ _, OW_nil _ _ _ _, Below.refl _ _, fun _ => ⟨rfl, rfl⟩⟩
    clear hkz hget hzero hkze hkzl hp1 HKK
    go_wp2
    go_loopw [5, 6, 14] (fun s5 s6 s14 wr => ∃ (j : Nat) (a : Option Addr) (ca : Nat) (b : Option Addr) (cb : Nat), j ≤ 64 ∧ s14 = .int .i64 (j : Int) ∧ s5 = .slice a j ca ∧ s6 = .slice b j cb ∧ KR w wr kz j a ca b cb) (fun _ _ s14 _ => 64 - (intOf s14).toNat)
    case atStart => exact ⟨0, none, 0, none, 0, by omega, rfl, rfl, rfl, hR0⟩
    case round =>
      obtain ⟨j, a2, c2, b2, d2, hj, rfl, rfl, rfl, hR⟩ := hrel
      clear hR0
      by_cases hlt : j < 64
      · have hszr := hR.bel.size
        have hbr := RS.below hb1 hR.bel (Nat.le_refl _)
        have HR := Lib.hid hR
        clear hR
        rcases Nat.lt_or_ge j n with hjn | hjn
        · obtain ⟨y, hy⟩ := BS.get hbr j hjn
          have hky := Lib.hid ((Hget.out j hjn).trans hy)
          have Hy := Lib.hid hy
          have x54 := Lib.hid (xor_u8 y 54 54 rfl)
          have x92 := Lib.hid (xor_u8 y 92 92 rfl)
          clear hy
          go_wp2_with (first
            | (refine LB_index tB hbr y _ _ rfl rfl _ _ rfl rfl (by omega) (by omega) (by simpa using Hy.out) ?_; intro qq hqq)
            | (at_builtin; refine L_append tB (HR.out.oa.alloc _) (RS_one _ _ _ rfl) _ _ rfl rfl rfl rfl (by omega) (by unfold maxLen; omega) (by simp; omega) ?_; intro a3 c3 w3 o3 g3; have hob := ((HR.out.ob.alloc _).grown g3 (fun ad ha => by
                  cases a2 with
                  | none => simp
                  | some p => have := HR.out.apart Hkzl.out p ad rfl ha; simp; omega)); have hs3 := g3.size)
            | (at_builtin; refine L_append tB (hob.alloc _) (RS_one _ _ _ rfl) _ _ rfl rfl rfl rfl (by omega) (by unfold maxLen; omega) (by simp at hs3 ⊢; omega) ?_; intro b4 d4 w4 o4 g4))
          have hN1 := HR.out.next Hkzl.out hky.out (below_alloc _ _) o3 x54.out g3 (below_alloc _ _) o4 x92.out g4
          clear o3 g3 o4 g4 hob hs3
          go_roundw
          case rel => exact ⟨j + 1, a3, c3, b4, d4, by omega, by go_num, rfl, rfl, hN1⟩
          case measure => simp [intOf]; omega
        · obtain ⟨y, hy⟩ : ∃ y : UInt8, y = 0 := ⟨_, rfl⟩
          have hky := Lib.hid (show kz[j]? = some y by rw [hy]; exact Hzero.out j hjn hlt)
          have hy0 : ((y.toNat : Nat) : Int) = 0 := by rw [hy]; rfl
          have Hy := Lib.hid hy
          have x54 := Lib.hid (xor_u8 y 54 54 rfl)
          have x92 := Lib.hid (xor_u8 y 92 92 rfl)
          rw [hy0] at x54 x92
          clear hy0
          clear hy
          go_wp2_with (first
            | (refine LB_index tB hbr y _ _ rfl rfl _ _ rfl rfl (by omega) (by omega) (by simpa using Hy.out) ?_; intro qq hqq)
            | (at_builtin; refine L_append tB (HR.out.oa.alloc _) (RS_one _ _ _ rfl) _ _ rfl rfl rfl rfl (by omega) (by unfold maxLen; omega) (by simp; omega) ?_; intro a3 c3 w3 o3 g3; have hob := ((HR.out.ob.alloc _).grown g3 (fun ad ha => by
                  cases a2 with
                  | none => simp
                  | some p => have := HR.out.apart Hkzl.out p ad rfl ha; simp; omega)); have hs3 := g3.size)
            | (at_builtin; refine L_append tB (hob.alloc _) (RS_one _ _ _ rfl) _ _ rfl rfl rfl rfl (by omega) (by unfold maxLen; omega) (by simp at hs3 ⊢; omega) ?_; intro b4 d4 w4 o4 g4))
          have hN1 := HR.out.next Hkzl.out hky.out (below_alloc _ _) o3 x54.out g3 (below_alloc _ _) o4 x92.out g4
          clear o3 g3 o4 g4 hob hs3
          go_roundw
          case rel => exact ⟨j + 1, a3, c3, b4, d4, by omega, by go_num, rfl, rfl, hN1⟩
          case measure => simp [intOf]; omega
      · obtain rfl : j = 64 := by omega
        rw [show ((64 : Nat) : Int) = 64 from rfl]
        have ha := hR.oa
        have hb := hR.ob
        rw [List.take_of_length_le (by rw [Hkzl.out]; omega)] at ha hb
        have hap := hR.apart Hkzl.out
        have hBr := hR.bel
        have hszr := hBr.size
        have hmac : macS key p = shaS (kz.map (· ^^^ 92) ++ shaS (kz.map (· ^^^ 54) ++ p)) := by rw [← HKZ.out]; rfl
        have Hmac := Lib.hid hmac
        clear hmac hR
        obtain ⟨x6, hx6⟩ : ∃ x6, kz.map (· ^^^ 54) = x6 := ⟨_, rfl⟩
        obtain ⟨x7, hx7⟩ : ∃ x7, kz.map (· ^^^ 92) = x7 := ⟨_, rfl⟩
        rw [hx6] at ha Hmac
        rw [hx7] at hb Hmac
        clear hx6 hx7
        have Ha := Lib.hid ha
        have Hb := Lib.hid hb
        have Hap := Lib.hid hap
        have HBr := Lib.hid hBr
        have hp2 := RS.below Hp1.out hBr (Nat.le_refl _)
        clear ha hb hap hBr
        go_wp2_with (first
          | (at_builtin; refine L_append tB Ha.out hp2 _ _ rfl rfl rfl rfl (by omega) (by unfold maxLen; omega) hszr ?_; intro a3 c3 w3 o3 g3; have hb3 := Hb.out.grown g3 (fun ad ha => by
                cases a2 with
                | none => simp
                | some p => have := Hap.out p ad rfl ha; simp; omega); have hs3 := g3.size; have ho3 : BS w3 a3 (64 + m) c3 (x6 ++ p) := by have := o3.rs; rw [← List.map_append] at this; exact this)
          | (go_at_call 28; (with_reducible refine (refSum_any _ (x6 ++ p) ho3 (by omega)).mono ?_); rintro e w4 ⟨a4, c4, rfl, o4, B4⟩; have hb4 := hb3.below B4 (Nat.le_refl _); have hs4 := B4.size)
          | (at_builtin; refine L_append tB hb4 o4.rs _ _ rfl rfl rfl rfl (by omega) (by unfold maxLen; omega) (by omega) ?_; intro a5 c5 w5 o5 g5; have hs5 := g5.size; have ho5 : BS w5 a5 (64 + 32) c5 (x7 ++ shaS (x6 ++ p)) := by have := o5.rs; rw [← List.map_append] at this; exact this)
          | (go_at_call 28; (with_reducible refine (refSum_any _ (x7 ++ shaS (x6 ++ p)) ho5 (by omega)).mono ?_); rintro e w6 ⟨a6, c6, rfl, o6, B6⟩))
        have hB3 : Below w.heap.size w w3 := (btrans2 hB1.out HBr.out).grown g3 (by omega) (row_ge (fun ad ha => (Ha.out.base_le ha).1) (by omega))
        have hB5 : Below w.heap.size w w5 := (btrans2 hB3 B4).grown g5 (by omega) (row_ge (fun ad ha => (Hb.out.base_le ha).1) (by omega))
        go_ret
        refine ⟨a6, c6, rfl, ?_, btrans2 hB5 B6⟩
        rw [Hmac.out]
        exact o6.mono hB5.size
end Go.Proofs.YtkhcpnmbhbhcgaaDoor
