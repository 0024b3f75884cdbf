/- head.read: long heads, from the version on. -/
import Derived.Test.YtlncnjcbgfeaoaaDoorYbb
set_option maxRecDepth 100000
set_option linter.unusedVariables false
namespace Go.Proofs.YtlncnjcbgfeaoaaDoor
open Go.RowKit
theorem beB41 : beB 4 1 = [0, 0, 0, 1] := by decide
theorem num_none' (w : World) {r : Nat} {a : Option Addr} {n c at_ : Nat} {xs : List UInt8} (h : RD w r a n c at_) (hx : BS w a n c xs) (hat : at_ ≤ n) (hn : n ≤ 140737488355328) (ht : takeS (xs.drop at_) = none) :
    Calls Tryd.prog 89 #[.pointer (some ⟨r, 0, none⟩)] w fun e w' => e = .returned (.tuple #[.int .u64 0, .int .i64 2]) ∧ w.grownBy w' (some r) := by
  refine (num_any w h hx hat hn).mono fun e w' h => ?_
  unfold NumPost at h; rw [ht] at h; exact h
theorem num_some' (w : World) {r : Nat} {a : Option Addr} {n c at_ : Nat} {xs : List UInt8} (h : RD w r a n c at_) (hx : BS w a n c xs) (hat : at_ ≤ n) (hn : n ≤ 140737488355328) (v : Nat) (m : Nat) (ys : List UInt8) (hm : n - ys.length = m) (ht : takeS (xs.drop at_) = some (v, ys)) :
    Calls Tryd.prog 89 #[.pointer (some ⟨r, 0, none⟩)] w fun e w' => e = .returned (.tuple #[.int .u64 (v : Int), .int .i64 0]) ∧ w.grownBy w' (some r) ∧ RD w' r a n c m := by
  refine (num_any w h hx hat hn).mono fun e w' h => ?_
  subst hm; unfold NumPost at h; rw [ht] at h; exact h
theorem takeS_num_lt {p : List UInt8} {v : Nat} {ys : List UInt8} (h : takeS p = some (v, ys)) : v < 4611686018427387904 := by
  cases p with
  | nil => cases h
  | cons b bs =>
    rw [takeS_cons] at h
    split at h
    · cases h
    · simp only [Option.some.injEq, Prod.mk.injEq] at h
      have hb := u8_lt b
      rw [← h.1]
      refine beNat_lt' _ _ (by omega) ?_
      rw [List.length_take]
      have : 2 ^ (b.toNat / 64) ≤ 2 ^ 3 := Nat.pow_le_pow_right (by omega) (by omega)
      omega
theorem grown_drewR {w w1 : World} {row : Option Nat} (h : w.grownBy w1 row) (k : Nat) : w.grownBy (w1.drewN k) row := ⟨h.os, h.tape, h.output, h.size, h.block⟩
section more
variable {w : World} {r : Nat} {a : Option Addr} {n c : Nat}
set_option maxHeartbeats 8000000 in
theorem read_long0 (b : UInt8) (bs : List UInt8) (h : RD w r a n c 0) (hx : BS w a n c (b :: bs)) (hk : KG w) (hkr : r ≠ 1) (hn : n ≤ 140737488355328) (hrb : ∀ ad, a = some ad → ad.block ≠ r) (h6 : b.toNat / 64 % 2 ≠ 0) (h7 : ¬ b.toNat < 128) (ht : b.toNat / 16 % 4 = 0) :
    Calls Tryd.prog 72 #[.pointer (some ⟨r, 0, none⟩)] w (ReadPost w r (b :: bs)) := by
  have hl := hx.len
  have hn1 : 1 ≤ n := by simp at hl; omega
  have hb8 := u8_lt b
  have hR := h.below (below_alloc w hobj)
  have hX := hx.alloc hobj
  have hH := HB_new w
  have hlt := h.lt
  have hkl := hk.lt
  have hb0 : ∀ x, a = some x → x.block ≠ w.heap.size := fun x hxa => by have := hx.block_lt hxa (by omega) (by omega); omega
  have T1 := Lib.hid (take_yes _ hR hX 1 (by omega) hn (by omega) hrb)
  have h64 := and64 b
  rw [show b.toNat / 64 % 2 = 1 by omega] at h64
  have h128 := and128 b
  rw [show b.toNat / 128 % 2 = 1 by omega] at h128
  have hA3 := and3 b
  have Hp := Lib.hid (show readP (b :: bs) = readL (b :: bs) 0 by rw [readP, if_neg h6, if_neg h7]; simp [ht])
  rw [ht] at hA3
  clear h6 h7 ht
  generalize hxs : b :: bs = xs at *
  have Hx1 : Hid ((xs.drop 0).take 1 = [b]) := by rw [← hxs]; rfl
  clear hxs
  go_enter Tryd.func72, Tryd.ntmps72
  go_wp2_with (first | (go_at_call 87; refine T1.out.mono ?_; rw [Nat.zero_add, Hx1.out]; rintro e w1 ⟨a1, c1, rfl, g1, g2, g3⟩; clear T1; have q1 := (hH.grown g3 (by simp; omega)).cells; have q2 := (hH.grown g3 (by simp; omega)).fr; have q3 := ((hk.below (below_alloc w hobj)).grown g3 (by simp; omega)).1; have q4 := ((hk.below (below_alloc w hobj)).grown g3 (by simp; omega)).2) | (refine LB_index tB (xs := [b]) (RS.setOther (g1.rs) (by intro x hx; have h1 := (g1.base_le hx).1; simp at h1 ⊢; omega) _) b _ _ rfl rfl _ _ rfl rfl (by omega) (by omega) rfl ?_; intro q hq) | (refine LB_index tB (xs := [b]) g1.rs b _ _ rfl rfl _ _ rfl rfl (by omega) (by omega) rfl ?_; intro q hq))
  have hX1 : BS w1 a n c xs := RS.grown hX g3 (fun ad ha he => hrb ad ha (by simpa using he))
  have HR1 : RD ((w1.setCell ⟨w.heap.size, 0, none⟩ (.bool true)).setCell ⟨w.heap.size, 1, none⟩ (.int .i64 0)) r a n c 1 := RD.other (RD.other g2 (by omega)) (by omega)
  have HX1 : BS ((w1.setCell ⟨w.heap.size, 0, none⟩ (.bool true)).setCell ⟨w.heap.size, 1, none⟩ (.int .i64 0)) a n c xs := RS.setOther (RS.setOther hX1 hb0 _) hb0 _
  have HH1 := ((hH.grown g3 (by simp; omega)).set0 true).set1 0
  have HG1 : w.grownBy ((w1.setCell ⟨w.heap.size, 0, none⟩ (.bool true)).setCell ⟨w.heap.size, 1, none⟩ (.int .i64 0)) (some r) := grown_setNew (grown_setNew (grown_trans (World.grownBy_alloc w _ (some r)) g3) (Nat.le_refl _) _) (Nat.le_refl _) _
  clear q1 q2 q3 q4 hA3 h64 h128
  by_cases hs : n < 5
  · have Hp2 := Lib.hid (show readP xs = errR 2 by rw [Hp.out, readL, if_pos (by omega)])
    refine (take_no _ HR1 4 (by omega) (by omega) (by omega)).mono ?_
    rintro e w2 ⟨rfl, k1, k2⟩
    have q1 := (HH1.grown k2 (by simp; omega)).cells
    have q2 := (HH1.grown k2 (by simp; omega)).fr
    go_wp2_with fail
    refine bodyPost_ret (v := .tuple #[.agg #[.bool true, .int .i64 0, .bool false, .slice none 0 0, .slice none 0 0], .int .i64 0, .int .i64 0, .int .i64 2]) (by simp [results, Tryd.results72, go_sem, q1]) rfl ?_
    exact ⟨_, _, _, _, _, _, _, _, _, _, by rw [Hp2.out]; rfl, gr5 (grown_trans HG1 k2) _ (Nat.le_refl _) _ _ _ _ _, by rw [Hp2.out]; simp [errR]⟩
  · refine (take_yes _ HR1 HX1 4 (by omega) hn (by omega) hrb).mono ?_
    rintro e w2 ⟨a2, c2, rfl, k1, k2, k3⟩
    have HX2 : BS w2 a n c xs := RS.grown HX1 k3 (fun ad ha he => hrb ad ha (by simpa using he))
    have HH2 := HH1.grown k3 (by simp; omega)
    have HG2 := grown_trans HG1 k3
    have q1 := HH2.cells
    have q2 := HH2.fr
    clear HR1 HX1 HH1 HG1 hX1
    go_wp2_with fail
    obtain ⟨V, hV⟩ : ∃ V, (xs.drop 1).take 4 = V := ⟨_, rfl⟩
    rw [hV] at k1
    have HV0 := Lib.hid hV
    clear hV
    refine (short_4 w2 1).mono ?_
    rintro e w3 ⟨a3, c3, rfl, s1, s2⟩
    go_wp2_with fail
    refine (equal_any w3 (xs := V) (ys := beB 4 1) (k1.below s2 (Nat.le_refl _)).rs s1.rs).mono ?_
    rintro e w4 ⟨rfl, rfl⟩
    have HR3 := k2.below s2
    have HX3 : BS w3 a n c xs := HX2.below s2 (Nat.le_refl _)
    have HG3 := grown_below HG2 s2
    have HH3 := HH2.grown (grown_of_below (row := none) s2) (by simp)
    have q1 := HH3.cells
    have q2 := HH3.fr
    clear HX2 HH2 HG2 k1 k2 k3 s1 s2
    obtain ⟨q, hq⟩ : ∃ q, (V == beB 4 1) = q := ⟨_, rfl⟩
    rw [hq]
    have Hq := Lib.hid hq
    clear hq
    cases q with
    | false =>
      have Hp2 := Lib.hid (show readP xs = errR 4 by
        rw [Hp.out, readL, if_neg (by omega), if_pos (by rw [HV0.out]; have h := Hq.out; rw [beB41] at h; simpa using h)])
      go_wp2_with fail
      refine bodyPost_ret (v := .tuple #[.agg #[.bool true, .int .i64 0, .bool false, .slice none 0 0, .slice none 0 0], .int .i64 0, .int .i64 0, .int .i64 4]) (by simp [results, Tryd.results72, go_sem, q1]) rfl ?_
      exact ⟨_, _, _, _, _, _, _, _, _, _, by rw [Hp2.out]; rfl, gr5 HG3 _ (Nat.le_refl _) _ _ _ _ _, by rw [Hp2.out]; simp [errR]⟩
    | true =>
      have I1 := id_any w3 HR3 HX3 (by omega) hn hrb
      have hp1 : readP xs = if (idS (xs.drop 5)).1 ≠ 0 then errR (idS (xs.drop 5)).1 else if (idS (xs.drop (5 + 1 + (idS (xs.drop 5)).2.length))).1 ≠ 0 then errR (idS (xs.drop (5 + 1 + (idS (xs.drop 5)).2.length))).1 else readT xs 0 (idS (xs.drop 5)).2 (idS (xs.drop (5 + 1 + (idS (xs.drop 5)).2.length))).2 (xs.drop (5 + 1 + (idS (xs.drop 5)).2.length + 1 + (idS (xs.drop (5 + 1 + (idS (xs.drop 5)).2.length))).2.length)) := by
        rw [Hp.out, readL, if_neg (by omega), if_neg (by rw [HV0.out]; have h := Hq.out; rw [beB41] at h; simpa using h)]
      have HL1 := idS_len (xs.drop 5)
      rw [List.length_drop, hl] at HL1
      unfold IdPost at I1
      generalize idS (xs.drop 5) = D1 at *
      obtain ⟨e1, n1⟩ := D1
      dsimp only at I1 hp1 HL1
      have Hp1 := Lib.hid hp1
      have HI1 := Lib.hid I1
      clear hp1 I1 Hp Hq HV0
      go_wp2_with fail
      refine HI1.out.mono ?_
      rintro e w4 ⟨a4, m1, c4, rfl, i1, i2, i3⟩
      have hm1 : n1.length = m1 := by simpa using i2.len
      have HX4 : BS w4 a n c xs := RS.grown HX3 i1 (fun ad ha he => hrb ad ha (by simpa using he))
      have HG4 := grown_trans HG3 i1
      have HH4 := HH3.grown i1 (by simp; omega)
      have hz3 := HG3.size
      have e4 : ∀ x, a4 = some x → x.block ≠ w.heap.size ∧ x.block ≠ r := fun x hx => by
        have h1 := (i2.base_le hx).1
        have h2 := HR3.lt
        have h3 := HH3.lt
        omega
      have q1 := HH4.cells
      have q2 := HH4.fr
      clear HR3 HX3 HH3 HG3 HI1
      by_cases he : e1 = 0
      · subst he
        have HR4 := i3 rfl
        have Hm1 := Lib.hid hm1
        clear i3 hm1
        have hL1 : 5 + 1 + m1 ≤ n := by have := HL1 rfl; have := Hm1.out; omega
        have hp1 := Hp1.out
        rw [if_neg (by simp), Hm1.out] at hp1
        have I2 := id_any (w4.setCell ⟨w.heap.size, 3, none⟩ (.slice a4 m1 c4)) (RD.other HR4 (by omega)) (RS.setOther HX4 hb0 _) hL1 hn hrb
        have HL2 := idS_len (xs.drop (5 + 1 + m1))
        rw [List.length_drop, hl] at HL2
        unfold IdPost at I2
        generalize idS (xs.drop (5 + 1 + m1)) = D2 at *
        obtain ⟨e2, n2⟩ := D2
        dsimp only at I2 hp1 HL2
        have Hp1' := Lib.hid hp1
        have HI2 := Lib.hid I2
        have HL2' := Lib.hid HL2
        have HX4' : BS (w4.setCell ⟨w.heap.size, 3, none⟩ (.slice a4 m1 c4)) a n c xs := RS.setOther HX4 hb0 _
        have HT4 : BS (w4.setCell ⟨w.heap.size, 3, none⟩ (.slice a4 m1 c4)) a4 m1 c4 n1 := RS.setOther i2.rs (fun x hx => (e4 x hx).1) _
        have HH4' := HH4.set3 (.slice a4 m1 c4)
        have HG4' : w.grownBy (w4.setCell ⟨w.heap.size, 3, none⟩ (.slice a4 m1 c4)) (some r) := grown_setNew HG4 (Nat.le_refl _) _
        have hz4 : w.heap.size ≤ (w4.setCell ⟨w.heap.size, 3, none⟩ (.slice a4 m1 c4)).heap.size := HG4'.size
        have HR4' := (RD.other HR4 (show w.heap.size ≠ r by omega) : RD (w4.setCell ⟨w.heap.size, 3, none⟩ (.slice a4 m1 c4)) r a n c (5 + 1 + m1)).lt
        have hh4 := HH4'.lt
        clear hp1 I2 Hp1 HL1 HL2 HX4 HH4 HG4 HR4 i1 i2
        go_wp2_with fail
        refine HI2.out.mono ?_
        rintro e w5 ⟨a5, m2, c5, rfl, i1, i2, i3⟩
        have hm2 : n2.length = m2 := by simpa using i2.len
        have HX5 : BS w5 a n c xs := RS.grown HX4' i1 (fun ad ha he => hrb ad ha (by simpa using he))
        have HG5 := grown_trans HG4' i1
        have HH5 := HH4'.grown i1 (by simp; omega)
        have HT5 : BS w5 a4 m1 c4 n1 := RS.grown HT4 i1 (fun ad ha he => (e4 ad ha).2 (by simpa using he))
        have e5 : ∀ x, a5 = some x → x.block ≠ w.heap.size ∧ x.block ≠ r := fun x hx => by
          have h1 := (i2.base_le hx).1
          omega
        have q1 := HH5.cells
        have q2 := HH5.fr
        clear HX4' HT4 HH4' HG4' HI2
        by_cases he' : e2 = 0
        · subst he'
          have HR5 := i3 rfl
          have hL2 : 5 + 1 + m1 + 1 + m2 ≤ n := by have := HL2'.out rfl; omega
          have hp1 := Hp1'.out
          rw [if_neg (by simp), hm2] at hp1
          have Hp2 := Lib.hid hp1
          have HR5' : RD (w5.setCell ⟨w.heap.size, 4, none⟩ (.slice a5 m2 c5)) r a n c (5 + 1 + m1 + 1 + m2) := RD.other HR5 (by omega)
          have HX5' : BS (w5.setCell ⟨w.heap.size, 4, none⟩ (.slice a5 m2 c5)) a n c xs := RS.setOther HX5 hb0 _
          have HT5' : BS (w5.setCell ⟨w.heap.size, 4, none⟩ (.slice a5 m2 c5)) a4 m1 c4 n1 := RS.setOther HT5 (fun x hx => (e4 x hx).1) _
          have HF5' : BS (w5.setCell ⟨w.heap.size, 4, none⟩ (.slice a5 m2 c5)) a5 m2 c5 n2 := RS.setOther i2.rs (fun x hx => (e5 x hx).1) _
          have HH5' := HH5.set4 (.slice a5 m2 c5)
          have HG5' : w.grownBy (w5.setCell ⟨w.heap.size, 4, none⟩ (.slice a5 m2 c5)) (some r) := grown_setNew HG5 (Nat.le_refl _) _
          clear i3 hm2 hp1 Hp1' HX5 HT5 HH5 HG5 HR5 HL2' i1 i2 Hm1
          cases hT : takeS (xs.drop (5 + 1 + m1 + 1 + m2)) with
          | none =>
            have Hp9 := Lib.hid (show readP xs = errR 2 by rw [Hp2.out]; simp [readT, hT])
            have N2 := Lib.hid (num_none' _ HR5' HX5' (by omega) hn hT)
            clear hT
            go_wp2_with fail
            refine N2.out.mono ?_
            rintro e w6 ⟨rfl, j1⟩
            have HX6 : BS w6 a n c xs := RS.grown HX5' j1 (fun ad ha he => hrb ad ha (by simpa using he))
            have HG6 := grown_trans HG5' j1
            have HH6 := HH5'.grown j1 (by simp; omega)
            have HT6 : BS w6 a4 m1 c4 n1 := RS.grown HT5' j1 (fun ad ha he => (e4 ad ha).2 (by simpa using he))
            have HF6 : BS w6 a5 m2 c5 n2 := RS.grown HF5' j1 (fun ad ha he => (e5 ad ha).2 (by simpa using he))
            have q6 := HH6.cells
            have p6 := HH6.fr
            go_wp2_with fail
            refine bodyPost_ret (v := .tuple #[.agg #[.bool true, .int .i64 0, .bool false, .slice a4 m1 c4, .slice a5 m2 c5], .int .i64 0, .int .i64 0, .int .i64 2]) (by simp [results, Tryd.results72, go_sem, q6]) rfl ?_
            exact ⟨_, _, _, _, _, _, _, _, _, _, by rw [Hp9.out]; rfl, gr5 (HG6) _ (Nat.le_refl _) _ _ _ _ _, by rw [Hp9.out]; simp [errR]⟩
          | some vy =>
            obtain ⟨v0, ys⟩ := vy
            have hsuf := takeS_suffix hl hT (by omega)
            obtain ⟨p8, hp8⟩ : ∃ p8, n - ys.length = p8 := ⟨_, rfl⟩
            have hys : xs.drop p8 = ys := by rw [← hp8]; exact hsuf.2
            have hp8n : p8 ≤ n := by omega
            have N2 := Lib.hid (num_some' _ HR5' HX5' (by omega) hn v0 p8 ys hp8 hT)
            have hP : readP xs = if v0 ≠ 0 then errR 4 else readN xs 0 n1 n2 (xs.drop p8) := by rw [Hp2.out]; simp [readT, hT, hys]
            have HP := Lib.hid hP
            clear hT hsuf hp8 hys hP Hp2
            go_wp2_with fail
            refine N2.out.mono ?_
            rintro e w6 ⟨rfl, j1, HR6⟩
            have HX6 : BS w6 a n c xs := RS.grown HX5' j1 (fun ad ha he => hrb ad ha (by simpa using he))
            have HG6 := grown_trans HG5' j1
            have HH6 := HH5'.grown j1 (by simp; omega)
            have HT6 : BS w6 a4 m1 c4 n1 := RS.grown HT5' j1 (fun ad ha he => (e4 ad ha).2 (by simpa using he))
            have HF6 : BS w6 a5 m2 c5 n2 := RS.grown HF5' j1 (fun ad ha he => (e5 ad ha).2 (by simpa using he))
            have q6 := HH6.cells
            have p6 := HH6.fr
            clear HX5' HG5' HH5' HT5' HF5' HR5' N2
            by_cases hv0 : v0 = 0
            · subst hv0
              have Hp3 := Lib.hid (show readP xs = _ by rw [HP.out, if_neg (by simp)])
              clear HP
              cases hT : takeS (xs.drop (p8)) with
              | none =>
                have Hp9 := Lib.hid (show readP xs = errR 2 by rw [Hp3.out, readN, hT])
                have N2 := Lib.hid (num_none' _ HR6 HX6 (by omega) hn hT)
                clear hT
                go_wp2_with fail
                refine N2.out.mono ?_
                rintro e w7 ⟨rfl, j1⟩
                have HX7 : BS w7 a n c xs := RS.grown HX6 j1 (fun ad ha he => hrb ad ha (by simpa using he))
                have HG7 := grown_trans HG6 j1
                have HH7 := HH6.grown j1 (by simp; omega)
                have HT7 : BS w7 a4 m1 c4 n1 := RS.grown HT6 j1 (fun ad ha he => (e4 ad ha).2 (by simpa using he))
                have HF7 : BS w7 a5 m2 c5 n2 := RS.grown HF6 j1 (fun ad ha he => (e5 ad ha).2 (by simpa using he))
                have q7 := HH7.cells
                have p7 := HH7.fr
                go_wp2_with fail
                refine bodyPost_ret (v := .tuple #[.agg #[.bool true, .int .i64 0, .bool false, .slice a4 m1 c4, .slice a5 m2 c5], .int .i64 0, .int .i64 0, .int .i64 2]) (by simp [results, Tryd.results72, go_sem, q7]) rfl ?_
                exact ⟨_, _, _, _, _, _, _, _, _, _, by rw [Hp9.out]; rfl, gr5 (HG7) _ (Nat.le_refl _) _ _ _ _ _, by rw [Hp9.out]; simp [errR]⟩
              | some vy =>
                obtain ⟨v, ys⟩ := vy
                have hsuf := takeS_suffix hl hT (by omega)
                have hv62 := takeS_num_lt hT
                obtain ⟨p9, hp9⟩ : ∃ p9, n - ys.length = p9 := ⟨_, rfl⟩
                have hyl : ys.length = n - p9 := by omega
                have hp9n : p9 ≤ n := by omega
                have N2 := Lib.hid (num_some' _ HR6 HX6 (by omega) hn v p9 ys hp9 hT)
                have hP := Hp3.out
                rw [readN, hT] at hP
                simp only [hyl, hl] at hP
                rw [show n - (n - p9) = p9 by omega] at hP
                have HP := Lib.hid hP
                clear hT hsuf hp9 hyl hP
                go_wp2_with fail
                refine N2.out.mono ?_
                rintro e w7 ⟨rfl, j1, j2⟩
                have HX7 : BS w7 a n c xs := RS.grown HX6 j1 (fun ad ha he => hrb ad ha (by simpa using he))
                have HG7 := grown_trans HG6 j1
                have HH7 := HH6.grown j1 (by simp; omega)
                have HT7 : BS w7 a4 m1 c4 n1 := RS.grown HT6 j1 (fun ad ha he => (e4 ad ha).2 (by simpa using he))
                have HF7 : BS w7 a5 m2 c5 n2 := RS.grown HF6 j1 (fun ad ha he => (e5 ad ha).2 (by simpa using he))
                have q7 := HH7.cells
                have p7 := HH7.fr
                have r0 := j2.c0
                have r1 := j2.c1
                by_cases hvn : n - p9 < v
                · have Hp9 := Lib.hid (show readP xs = errR 2 by rw [HP.out, if_pos hvn])
                  have hvn' : ((n : Int) - (p9 : Int) < (v : Int)) := by omega
                  go_wp2_with fail
                  go_quiet (fail)
                  go_wp2_with fail
                  refine bodyPost_ret (v := .tuple #[.agg #[.bool true, .int .i64 0, .bool false, .slice a4 m1 c4, .slice a5 m2 c5], .int .i64 0, .int .i64 0, .int .i64 2]) (by simp [results, Tryd.results72, go_sem, q7]) rfl ?_
                  exact ⟨_, _, _, _, _, _, _, _, _, _, by rw [Hp9.out]; rfl, grown_drewR (gr5 HG7 _ (Nat.le_refl _) _ _ _ _ _) nq, by rw [Hp9.out]; simp [errR]⟩
                · have Hp9 := Lib.hid (show readP xs = _ by rw [HP.out, if_neg hvn])
                  have hvn' : ¬ ((n : Int) - (p9 : Int) < (v : Int)) := by omega
                  go_wp2_with fail
                  go_quiet (fail)
                  go_wp2_with fail
                  go_region
                  go_wp2
                  refine bodyPost_ret (v := .tuple #[.agg #[.bool true, .int .i64 0, .bool false, .slice a4 m1 c4, .slice a5 m2 c5], .int .i64 p9, .int .i64 ((p9 : Int) + (v : Int)), .int .i64 0]) (by simp [results, Tryd.results72, go_sem, q7]) rfl ?_
                  refine ⟨_, _, _, _, _, _, _, _, _, _, by rw [Hp9.out], gr5 (grown_drewR HG7 (nq + 1)) _ (Nat.le_refl _) _ _ _ _ _, fun _ => ?_⟩
                  rw [Hp9.out]
                  refine ⟨⟨a4, m1, c4, a5, m2, c5, rfl, ?_, ?_⟩, rfl, rfl⟩
                  · exact rs5 (w1 := w7.drewN (nq + 1)) HT7 _ (fun x hx => (e4 x hx).1) _ _ _ _ _
                  · exact rs5 (w1 := w7.drewN (nq + 1)) HF7 _ (fun x hx => (e5 x hx).1) _ _ _ _ _
            · have hv1 : ((v0 : Int) == 0) = false := by simpa using hv0
              have hv2 : ((v0 : Int) != 0) = true := by simpa using hv0
              have Hp9 := Lib.hid (show readP xs = errR 4 by rw [HP.out, if_pos hv0])
              clear hv0
              go_wp2_with fail
              refine bodyPost_ret (v := .tuple #[.agg #[.bool true, .int .i64 0, .bool false, .slice a4 m1 c4, .slice a5 m2 c5], .int .i64 0, .int .i64 0, .int .i64 4]) (by simp [results, Tryd.results72, go_sem, q6]) rfl ?_
              exact ⟨_, _, _, _, _, _, _, _, _, _, by rw [Hp9.out]; rfl, gr5 (HG6) _ (Nat.le_refl _) _ _ _ _ _, by rw [Hp9.out]; simp [errR]⟩
        · have he1 : (e2 == 0) = false := by simpa using he'
          have he2 : (e2 != 0) = true := by simpa using he'
          have Hp2 := Lib.hid (show readP xs = errR e2 by rw [Hp1'.out, if_pos he'])
          clear i3 hm2 he'
          go_wp2_with fail
          refine bodyPost_ret (v := .tuple #[.agg #[.bool true, .int .i64 0, .bool false, .slice a4 m1 c4, .slice a5 m2 c5], .int .i64 0, .int .i64 0, .int .i64 e2]) (by simp [results, Tryd.results72, go_sem, q1]) rfl ?_
          exact ⟨_, _, _, _, _, _, _, _, _, _, by rw [Hp2.out]; rfl, gr5 (grown_setNew HG5 (Nat.le_refl _) _) _ (Nat.le_refl _) _ _ _ _ _, by rw [Hp2.out]; intro h0; exact absurd h0 (by simpa [errR] using he1)⟩
      · have he1 : (e1 == 0) = false := by simpa using he
        have he2 : (e1 != 0) = true := by simpa using he
        have Hp2 := Lib.hid (show readP xs = errR e1 by rw [Hp1.out, if_pos he])
        clear i3 hm1 he
        go_wp2_with fail
        refine bodyPost_ret (v := .tuple #[.agg #[.bool true, .int .i64 0, .bool false, .slice a4 m1 c4, .slice none 0 0], .int .i64 0, .int .i64 0, .int .i64 e1]) (by simp [results, Tryd.results72, go_sem, q1]) rfl ?_
        exact ⟨_, _, _, _, _, _, _, _, _, _, by rw [Hp2.out]; rfl, gr5 (grown_setNew HG4 (Nat.le_refl _) _) _ (Nat.le_refl _) _ _ _ _ _, by rw [Hp2.out]; intro h0; exact absurd h0 (by simpa [errR] using he1)⟩
set_option maxHeartbeats 8000000 in
theorem read_long1 (b : UInt8) (bs : List UInt8) (h : RD w r a n c 0) (hx : BS w a n c (b :: bs)) (hk : KG w) (hkr : r ≠ 1) (hn : n ≤ 140737488355328) (hrb : ∀ ad, a = some ad → ad.block ≠ r) (h6 : b.toNat / 64 % 2 ≠ 0) (h7 : ¬ b.toNat < 128) (ht : b.toNat / 16 % 4 = 2) :
    Calls Tryd.prog 72 #[.pointer (some ⟨r, 0, none⟩)] w (ReadPost w r (b :: bs)) := by
  have hl := hx.len
  have hn1 : 1 ≤ n := by simp at hl; omega
  have hb8 := u8_lt b
  have hR := h.below (below_alloc w hobj)
  have hX := hx.alloc hobj
  have hH := HB_new w
  have hlt := h.lt
  have hkl := hk.lt
  have hb0 : ∀ x, a = some x → x.block ≠ w.heap.size := fun x hxa => by have := hx.block_lt hxa (by omega) (by omega); omega
  have T1 := Lib.hid (take_yes _ hR hX 1 (by omega) hn (by omega) hrb)
  have h64 := and64 b
  rw [show b.toNat / 64 % 2 = 1 by omega] at h64
  have h128 := and128 b
  rw [show b.toNat / 128 % 2 = 1 by omega] at h128
  have hA3 := and3 b
  have Hp := Lib.hid (show readP (b :: bs) = readL (b :: bs) 1 by rw [readP, if_neg h6, if_neg h7]; simp [ht])
  rw [ht] at hA3
  clear h6 h7 ht
  generalize hxs : b :: bs = xs at *
  have Hx1 : Hid ((xs.drop 0).take 1 = [b]) := by rw [← hxs]; rfl
  clear hxs
  go_enter Tryd.func72, Tryd.ntmps72
  go_wp2_with (first | (go_at_call 87; refine T1.out.mono ?_; rw [Nat.zero_add, Hx1.out]; rintro e w1 ⟨a1, c1, rfl, g1, g2, g3⟩; clear T1; have q1 := (hH.grown g3 (by simp; omega)).cells; have q2 := (hH.grown g3 (by simp; omega)).fr; have q3 := ((hk.below (below_alloc w hobj)).grown g3 (by simp; omega)).1; have q4 := ((hk.below (below_alloc w hobj)).grown g3 (by simp; omega)).2) | (refine LB_index tB (xs := [b]) (RS.setOther (g1.rs) (by intro x hx; have h1 := (g1.base_le hx).1; simp at h1 ⊢; omega) _) b _ _ rfl rfl _ _ rfl rfl (by omega) (by omega) rfl ?_; intro q hq) | (refine LB_index tB (xs := [b]) g1.rs b _ _ rfl rfl _ _ rfl rfl (by omega) (by omega) rfl ?_; intro q hq))
  have hX1 : BS w1 a n c xs := RS.grown hX g3 (fun ad ha he => hrb ad ha (by simpa using he))
  have HR1 : RD ((w1.setCell ⟨w.heap.size, 0, none⟩ (.bool true)).setCell ⟨w.heap.size, 1, none⟩ (.int .i64 1)) r a n c 1 := RD.other (RD.other g2 (by omega)) (by omega)
  have HX1 : BS ((w1.setCell ⟨w.heap.size, 0, none⟩ (.bool true)).setCell ⟨w.heap.size, 1, none⟩ (.int .i64 1)) a n c xs := RS.setOther (RS.setOther hX1 hb0 _) hb0 _
  have HH1 := ((hH.grown g3 (by simp; omega)).set0 true).set1 1
  have HG1 : w.grownBy ((w1.setCell ⟨w.heap.size, 0, none⟩ (.bool true)).setCell ⟨w.heap.size, 1, none⟩ (.int .i64 1)) (some r) := grown_setNew (grown_setNew (grown_trans (World.grownBy_alloc w _ (some r)) g3) (Nat.le_refl _) _) (Nat.le_refl _) _
  clear q1 q2 q3 q4 hA3 h64 h128
  by_cases hs : n < 5
  · have Hp2 := Lib.hid (show readP xs = errR 2 by rw [Hp.out, readL, if_pos (by omega)])
    refine (take_no _ HR1 4 (by omega) (by omega) (by omega)).mono ?_
    rintro e w2 ⟨rfl, k1, k2⟩
    have q1 := (HH1.grown k2 (by simp; omega)).cells
    have q2 := (HH1.grown k2 (by simp; omega)).fr
    go_wp2_with fail
    refine bodyPost_ret (v := .tuple #[.agg #[.bool true, .int .i64 1, .bool false, .slice none 0 0, .slice none 0 0], .int .i64 0, .int .i64 0, .int .i64 2]) (by simp [results, Tryd.results72, go_sem, q1]) rfl ?_
    exact ⟨_, _, _, _, _, _, _, _, _, _, by rw [Hp2.out]; rfl, gr5 (grown_trans HG1 k2) _ (Nat.le_refl _) _ _ _ _ _, by rw [Hp2.out]; simp [errR]⟩
  · refine (take_yes _ HR1 HX1 4 (by omega) hn (by omega) hrb).mono ?_
    rintro e w2 ⟨a2, c2, rfl, k1, k2, k3⟩
    have HX2 : BS w2 a n c xs := RS.grown HX1 k3 (fun ad ha he => hrb ad ha (by simpa using he))
    have HH2 := HH1.grown k3 (by simp; omega)
    have HG2 := grown_trans HG1 k3
    have q1 := HH2.cells
    have q2 := HH2.fr
    clear HR1 HX1 HH1 HG1 hX1
    go_wp2_with fail
    obtain ⟨V, hV⟩ : ∃ V, (xs.drop 1).take 4 = V := ⟨_, rfl⟩
    rw [hV] at k1
    have HV0 := Lib.hid hV
    clear hV
    refine (short_4 w2 1).mono ?_
    rintro e w3 ⟨a3, c3, rfl, s1, s2⟩
    go_wp2_with fail
    refine (equal_any w3 (xs := V) (ys := beB 4 1) (k1.below s2 (Nat.le_refl _)).rs s1.rs).mono ?_
    rintro e w4 ⟨rfl, rfl⟩
    have HR3 := k2.below s2
    have HX3 : BS w3 a n c xs := HX2.below s2 (Nat.le_refl _)
    have HG3 := grown_below HG2 s2
    have HH3 := HH2.grown (grown_of_below (row := none) s2) (by simp)
    have q1 := HH3.cells
    have q2 := HH3.fr
    clear HX2 HH2 HG2 k1 k2 k3 s1 s2
    obtain ⟨q, hq⟩ : ∃ q, (V == beB 4 1) = q := ⟨_, rfl⟩
    rw [hq]
    have Hq := Lib.hid hq
    clear hq
    cases q with
    | false =>
      have Hp2 := Lib.hid (show readP xs = errR 4 by
        rw [Hp.out, readL, if_neg (by omega), if_pos (by rw [HV0.out]; have h := Hq.out; rw [beB41] at h; simpa using h)])
      go_wp2_with fail
      refine bodyPost_ret (v := .tuple #[.agg #[.bool true, .int .i64 1, .bool false, .slice none 0 0, .slice none 0 0], .int .i64 0, .int .i64 0, .int .i64 4]) (by simp [results, Tryd.results72, go_sem, q1]) rfl ?_
      exact ⟨_, _, _, _, _, _, _, _, _, _, by rw [Hp2.out]; rfl, gr5 HG3 _ (Nat.le_refl _) _ _ _ _ _, by rw [Hp2.out]; simp [errR]⟩
    | true =>
      have I1 := id_any w3 HR3 HX3 (by omega) hn hrb
      have hp1 : readP xs = if (idS (xs.drop 5)).1 ≠ 0 then errR (idS (xs.drop 5)).1 else if (idS (xs.drop (5 + 1 + (idS (xs.drop 5)).2.length))).1 ≠ 0 then errR (idS (xs.drop (5 + 1 + (idS (xs.drop 5)).2.length))).1 else readT xs 1 (idS (xs.drop 5)).2 (idS (xs.drop (5 + 1 + (idS (xs.drop 5)).2.length))).2 (xs.drop (5 + 1 + (idS (xs.drop 5)).2.length + 1 + (idS (xs.drop (5 + 1 + (idS (xs.drop 5)).2.length))).2.length)) := by
        rw [Hp.out, readL, if_neg (by omega), if_neg (by rw [HV0.out]; have h := Hq.out; rw [beB41] at h; simpa using h)]
      have HL1 := idS_len (xs.drop 5)
      rw [List.length_drop, hl] at HL1
      unfold IdPost at I1
      generalize idS (xs.drop 5) = D1 at *
      obtain ⟨e1, n1⟩ := D1
      dsimp only at I1 hp1 HL1
      have Hp1 := Lib.hid hp1
      have HI1 := Lib.hid I1
      clear hp1 I1 Hp Hq HV0
      go_wp2_with fail
      refine HI1.out.mono ?_
      rintro e w4 ⟨a4, m1, c4, rfl, i1, i2, i3⟩
      have hm1 : n1.length = m1 := by simpa using i2.len
      have HX4 : BS w4 a n c xs := RS.grown HX3 i1 (fun ad ha he => hrb ad ha (by simpa using he))
      have HG4 := grown_trans HG3 i1
      have HH4 := HH3.grown i1 (by simp; omega)
      have hz3 := HG3.size
      have e4 : ∀ x, a4 = some x → x.block ≠ w.heap.size ∧ x.block ≠ r := fun x hx => by
        have h1 := (i2.base_le hx).1
        have h2 := HR3.lt
        have h3 := HH3.lt
        omega
      have q1 := HH4.cells
      have q2 := HH4.fr
      clear HR3 HX3 HH3 HG3 HI1
      by_cases he : e1 = 0
      · subst he
        have HR4 := i3 rfl
        have Hm1 := Lib.hid hm1
        clear i3 hm1
        have hL1 : 5 + 1 + m1 ≤ n := by have := HL1 rfl; have := Hm1.out; omega
        have hp1 := Hp1.out
        rw [if_neg (by simp), Hm1.out] at hp1
        have I2 := id_any (w4.setCell ⟨w.heap.size, 3, none⟩ (.slice a4 m1 c4)) (RD.other HR4 (by omega)) (RS.setOther HX4 hb0 _) hL1 hn hrb
        have HL2 := idS_len (xs.drop (5 + 1 + m1))
        rw [List.length_drop, hl] at HL2
        unfold IdPost at I2
        generalize idS (xs.drop (5 + 1 + m1)) = D2 at *
        obtain ⟨e2, n2⟩ := D2
        dsimp only at I2 hp1 HL2
        have Hp1' := Lib.hid hp1
        have HI2 := Lib.hid I2
        have HL2' := Lib.hid HL2
        have HX4' : BS (w4.setCell ⟨w.heap.size, 3, none⟩ (.slice a4 m1 c4)) a n c xs := RS.setOther HX4 hb0 _
        have HT4 : BS (w4.setCell ⟨w.heap.size, 3, none⟩ (.slice a4 m1 c4)) a4 m1 c4 n1 := RS.setOther i2.rs (fun x hx => (e4 x hx).1) _
        have HH4' := HH4.set3 (.slice a4 m1 c4)
        have HG4' : w.grownBy (w4.setCell ⟨w.heap.size, 3, none⟩ (.slice a4 m1 c4)) (some r) := grown_setNew HG4 (Nat.le_refl _) _
        have hz4 : w.heap.size ≤ (w4.setCell ⟨w.heap.size, 3, none⟩ (.slice a4 m1 c4)).heap.size := HG4'.size
        have HR4' := (RD.other HR4 (show w.heap.size ≠ r by omega) : RD (w4.setCell ⟨w.heap.size, 3, none⟩ (.slice a4 m1 c4)) r a n c (5 + 1 + m1)).lt
        have hh4 := HH4'.lt
        clear hp1 I2 Hp1 HL1 HL2 HX4 HH4 HG4 HR4 i1 i2
        go_wp2_with fail
        refine HI2.out.mono ?_
        rintro e w5 ⟨a5, m2, c5, rfl, i1, i2, i3⟩
        have hm2 : n2.length = m2 := by simpa using i2.len
        have HX5 : BS w5 a n c xs := RS.grown HX4' i1 (fun ad ha he => hrb ad ha (by simpa using he))
        have HG5 := grown_trans HG4' i1
        have HH5 := HH4'.grown i1 (by simp; omega)
        have HT5 : BS w5 a4 m1 c4 n1 := RS.grown HT4 i1 (fun ad ha he => (e4 ad ha).2 (by simpa using he))
        have e5 : ∀ x, a5 = some x → x.block ≠ w.heap.size ∧ x.block ≠ r := fun x hx => by
          have h1 := (i2.base_le hx).1
          omega
        have q1 := HH5.cells
        have q2 := HH5.fr
        clear HX4' HT4 HH4' HG4' HI2
        by_cases he' : e2 = 0
        · subst he'
          have HR5 := i3 rfl
          have hL2 : 5 + 1 + m1 + 1 + m2 ≤ n := by have := HL2'.out rfl; omega
          have hp1 := Hp1'.out
          rw [if_neg (by simp), hm2] at hp1
          have Hp2 := Lib.hid hp1
          have HR5' : RD (w5.setCell ⟨w.heap.size, 4, none⟩ (.slice a5 m2 c5)) r a n c (5 + 1 + m1 + 1 + m2) := RD.other HR5 (by omega)
          have HX5' : BS (w5.setCell ⟨w.heap.size, 4, none⟩ (.slice a5 m2 c5)) a n c xs := RS.setOther HX5 hb0 _
          have HT5' : BS (w5.setCell ⟨w.heap.size, 4, none⟩ (.slice a5 m2 c5)) a4 m1 c4 n1 := RS.setOther HT5 (fun x hx => (e4 x hx).1) _
          have HF5' : BS (w5.setCell ⟨w.heap.size, 4, none⟩ (.slice a5 m2 c5)) a5 m2 c5 n2 := RS.setOther i2.rs (fun x hx => (e5 x hx).1) _
          have HH5' := HH5.set4 (.slice a5 m2 c5)
          have HG5' : w.grownBy (w5.setCell ⟨w.heap.size, 4, none⟩ (.slice a5 m2 c5)) (some r) := grown_setNew HG5 (Nat.le_refl _) _
          clear i3 hm2 hp1 Hp1' HX5 HT5 HH5 HG5 HR5 HL2' i1 i2 Hm1
          have Hp3 := Lib.hid (show readP xs = readN xs 1 n1 n2 (xs.drop (5 + 1 + m1 + 1 + m2)) by rw [Hp2.out]; simp [readT])
          clear Hp2
          cases hT : takeS (xs.drop (5 + 1 + m1 + 1 + m2)) with
          | none =>
            have Hp9 := Lib.hid (show readP xs = errR 2 by rw [Hp3.out, readN, hT])
            have N2 := Lib.hid (num_none' _ HR5' HX5' (by omega) hn hT)
            clear hT
            go_wp2_with fail
            refine N2.out.mono ?_
            rintro e w7 ⟨rfl, j1⟩
            have HX7 : BS w7 a n c xs := RS.grown HX5' j1 (fun ad ha he => hrb ad ha (by simpa using he))
            have HG7 := grown_trans HG5' j1
            have HH7 := HH5'.grown j1 (by simp; omega)
            have HT7 : BS w7 a4 m1 c4 n1 := RS.grown HT5' j1 (fun ad ha he => (e4 ad ha).2 (by simpa using he))
            have HF7 : BS w7 a5 m2 c5 n2 := RS.grown HF5' j1 (fun ad ha he => (e5 ad ha).2 (by simpa using he))
            have q7 := HH7.cells
            have p7 := HH7.fr
            go_wp2_with fail
            refine bodyPost_ret (v := .tuple #[.agg #[.bool true, .int .i64 1, .bool false, .slice a4 m1 c4, .slice a5 m2 c5], .int .i64 0, .int .i64 0, .int .i64 2]) (by simp [results, Tryd.results72, go_sem, q7]) rfl ?_
            exact ⟨_, _, _, _, _, _, _, _, _, _, by rw [Hp9.out]; rfl, gr5 (HG7) _ (Nat.le_refl _) _ _ _ _ _, by rw [Hp9.out]; simp [errR]⟩
          | some vy =>
            obtain ⟨v, ys⟩ := vy
            have hsuf := takeS_suffix hl hT (by omega)
            have hv62 := takeS_num_lt hT
            obtain ⟨p9, hp9⟩ : ∃ p9, n - ys.length = p9 := ⟨_, rfl⟩
            have hyl : ys.length = n - p9 := by omega
            have hp9n : p9 ≤ n := by omega
            have N2 := Lib.hid (num_some' _ HR5' HX5' (by omega) hn v p9 ys hp9 hT)
            have hP := Hp3.out
            rw [readN, hT] at hP
            simp only [hyl, hl] at hP
            rw [show n - (n - p9) = p9 by omega] at hP
            have HP := Lib.hid hP
            clear hT hsuf hp9 hyl hP
            go_wp2_with fail
            refine N2.out.mono ?_
            rintro e w7 ⟨rfl, j1, j2⟩
            have HX7 : BS w7 a n c xs := RS.grown HX5' j1 (fun ad ha he => hrb ad ha (by simpa using he))
            have HG7 := grown_trans HG5' j1
            have HH7 := HH5'.grown j1 (by simp; omega)
            have HT7 : BS w7 a4 m1 c4 n1 := RS.grown HT5' j1 (fun ad ha he => (e4 ad ha).2 (by simpa using he))
            have HF7 : BS w7 a5 m2 c5 n2 := RS.grown HF5' j1 (fun ad ha he => (e5 ad ha).2 (by simpa using he))
            have q7 := HH7.cells
            have p7 := HH7.fr
            have r0 := j2.c0
            have r1 := j2.c1
            by_cases hvn : n - p9 < v
            · have Hp9 := Lib.hid (show readP xs = errR 2 by rw [HP.out, if_pos hvn])
              have hvn' : ((n : Int) - (p9 : Int) < (v : Int)) := by omega
              go_wp2_with fail
              go_quiet (fail)
              go_wp2_with fail
              refine bodyPost_ret (v := .tuple #[.agg #[.bool true, .int .i64 1, .bool false, .slice a4 m1 c4, .slice a5 m2 c5], .int .i64 0, .int .i64 0, .int .i64 2]) (by simp [results, Tryd.results72, go_sem, q7]) rfl ?_
              exact ⟨_, _, _, _, _, _, _, _, _, _, by rw [Hp9.out]; rfl, grown_drewR (gr5 HG7 _ (Nat.le_refl _) _ _ _ _ _) nq, by rw [Hp9.out]; simp [errR]⟩
            · have Hp9 := Lib.hid (show readP xs = _ by rw [HP.out, if_neg hvn])
              have hvn' : ¬ ((n : Int) - (p9 : Int) < (v : Int)) := by omega
              go_wp2_with fail
              go_quiet (fail)
              go_wp2_with fail
              go_region
              go_wp2
              refine bodyPost_ret (v := .tuple #[.agg #[.bool true, .int .i64 1, .bool false, .slice a4 m1 c4, .slice a5 m2 c5], .int .i64 p9, .int .i64 ((p9 : Int) + (v : Int)), .int .i64 0]) (by simp [results, Tryd.results72, go_sem, q7]) rfl ?_
              refine ⟨_, _, _, _, _, _, _, _, _, _, by rw [Hp9.out], gr5 (grown_drewR HG7 (nq + 1)) _ (Nat.le_refl _) _ _ _ _ _, fun _ => ?_⟩
              rw [Hp9.out]
              refine ⟨⟨a4, m1, c4, a5, m2, c5, rfl, ?_, ?_⟩, rfl, rfl⟩
              · exact rs5 (w1 := w7.drewN (nq + 1)) HT7 _ (fun x hx => (e4 x hx).1) _ _ _ _ _
              · exact rs5 (w1 := w7.drewN (nq + 1)) HF7 _ (fun x hx => (e5 x hx).1) _ _ _ _ _
        · have he1 : (e2 == 0) = false := by simpa using he'
          have he2 : (e2 != 0) = true := by simpa using he'
          have Hp2 := Lib.hid (show readP xs = errR e2 by rw [Hp1'.out, if_pos he'])
          clear i3 hm2 he'
          go_wp2_with fail
          refine bodyPost_ret (v := .tuple #[.agg #[.bool true, .int .i64 1, .bool false, .slice a4 m1 c4, .slice a5 m2 c5], .int .i64 0, .int .i64 0, .int .i64 e2]) (by simp [results, Tryd.results72, go_sem, q1]) rfl ?_
          exact ⟨_, _, _, _, _, _, _, _, _, _, by rw [Hp2.out]; rfl, gr5 (grown_setNew HG5 (Nat.le_refl _) _) _ (Nat.le_refl _) _ _ _ _ _, by rw [Hp2.out]; intro h0; exact absurd h0 (by simpa [errR] using he1)⟩
      · have he1 : (e1 == 0) = false := by simpa using he
        have he2 : (e1 != 0) = true := by simpa using he
        have Hp2 := Lib.hid (show readP xs = errR e1 by rw [Hp1.out, if_pos he])
        clear i3 hm1 he
        go_wp2_with fail
        refine bodyPost_ret (v := .tuple #[.agg #[.bool true, .int .i64 1, .bool false, .slice a4 m1 c4, .slice none 0 0], .int .i64 0, .int .i64 0, .int .i64 e1]) (by simp [results, Tryd.results72, go_sem, q1]) rfl ?_
        exact ⟨_, _, _, _, _, _, _, _, _, _, by rw [Hp2.out]; rfl, gr5 (grown_setNew HG4 (Nat.le_refl _) _) _ (Nat.le_refl _) _ _ _ _ _, by rw [Hp2.out]; intro h0; exact absurd h0 (by simpa [errR] using he1)⟩
end more
end Go.Proofs.YtlncnjcbgfeaoaaDoor
