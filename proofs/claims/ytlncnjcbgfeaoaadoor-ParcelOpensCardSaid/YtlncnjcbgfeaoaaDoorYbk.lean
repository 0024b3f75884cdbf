/- texts EC ED in one. -/
import Derived.Test.YtlncnjcbgfeaoaaDoorYbi
import Derived.Test.YtlncnjcbgfeaoaaDoorYbj
import Derived.Test.YtlncnjcbgfeaoaaDoorYay
import Derived.Test.YtlncnjcbgfeaoaaDoorYba

/- what opening answers, the program's, the reference's and Peek's, as one relation. -/
set_option maxRecDepth 100000
set_option linter.unusedVariables false
namespace Go.Proofs.YtlncnjcbgfeaoaaDoor
open Go.RowKit
theorem ropenp_ok (w : World) {a : Option Addr} {n c t e k pn kk : Nat} {ka kb kc p m q nn d : List UInt8} {hd : Hd} {largest : Nat} {some_ : Bool} (hla : largest < 18446744073709551616) (hal : ka.length = 32) (hbl : kb.length = 12) (hcl : kc.length = 32) (hp : BS w a n c p) (hn : n ≤ 65536) (hD : OPR ka kb kc p largest some_ hd t e m q k pn nn d kk) :
    Calls Tryd.prog 20 #[.agg ((ka ++ kb ++ kc).map B).toArray, .slice a n c, .int .u64 (largest : Int), .bool some_] w fun x w' => ROO w w' x p d q hd pn e kk (cutS q t k) k := by
  cases hL : hd.long
  · exact ropenp_okf w hla hal hbl hcl hp hn hD hL
  · exact ropenp_okt w hla hal hbl hcl hp hn hD hL
/-- e1: what reading the head answers; cd: what opening answers -/
structure RES (ka kb kc p : List UInt8) (largest : Nat) (some : Bool) (e1 cd : Nat) (pn : Nat) (d r : List UInt8) (hd : Hd) (ph : Bool) (C k : Nat) : Prop where
  h : e1 ≠ 0 ∧ (∃ h0 a0 b0, readS p = ((e1 : Int), h0, a0, b0)) ∧ cd = e1 ∧ pn = 0 ∧ d = [] ∧ r = [] ∧ hd = hd0 ∧ ph = false ∧ C = 0 ∧ k = 0 ∨
    e1 = 0 ∧ ∃ t e m q kk pn0 nn d0, OPR ka kb kc p largest some hd t e m q k pn0 nn d0 kk ∧ ph = phS hd.long q ∧ C = cutS q t k ∧
      (kk ≠ 0 ∧ cd = 5 ∧ pn = 0 ∧ d = [] ∧ r = [] ∨ kk = 0 ∧ restN (q.getD 0 0).toNat ≠ 0 ∧ cd = 4 ∧ pn = 0 ∧ d = [] ∧ r = [] ∨ kk = 0 ∧ restN (q.getD 0 0).toNat = 0 ∧ cd = 0 ∧ pn = pn0 ∧ d = d0 ∧ r = p.drop e)
theorem readS_nat (p : List UInt8) : ∃ n : Nat, (readS p).1 = (n : Int) := by
  have h : 0 ≤ (readS p).1 := by
    have idn : ∀ q, 0 ≤ (idS q).1 := by
      intro q; cases q with
      | nil => decide
      | cons b r =>
        rw [idS_cons]
        split
        · decide
        · split
          · decide
          · exact Int.le_refl _
    have hN : ∀ p lv i1 i2 r, 0 ≤ (readN p lv i1 i2 r).1 := by
      intro p lv i1 i2 r; unfold readN; split; decide; split; decide; exact Int.le_refl _
    have hT : ∀ p lv i1 i2 r, 0 ≤ (readT p lv i1 i2 r).1 := by
      intro p lv i1 i2 r; unfold readT; split
      · split
        · decide
        · split
          · decide
          · exact hN _ _ _ _ _
      · exact hN _ _ _ _ _
    have hL : ∀ p lv, 0 ≤ (readL p lv).1 := by
      intro p lv; unfold readL
      split
      · decide
      · split
        · decide
        · split
          · exact idn _
          · split
            · exact idn _
            · exact hT _ _ _ _ _
    have hP : ∀ p, 0 ≤ (readP p).1 := by
      intro p; unfold readP
      split
      · decide
      · split
        · decide
        · split
          · split
            · decide
            · exact Int.le_refl _
          · split
            · exact hL _ _
            · split
              · exact hL _ _
              · decide
    unfold readS
    split
    · exact hP p
    · split
      · decide
      · exact hP p
  exact ⟨(readS p).1.toNat, (Int.toNat_of_nonneg h).symm⟩
theorem RES_ex (ka kb kc p : List UInt8) (largest : Nat) (some : Bool) : ∃ e1 cd pn d r hd ph C k, RES ka kb kc p largest some e1 cd pn d r hd ph C k := by
  obtain ⟨n, hn⟩ := readS_nat p
  obtain ⟨R, hR⟩ : ∃ R, readS p = R := ⟨_, rfl⟩
  obtain ⟨e1, h0, a0, b0⟩ := R
  rw [hR] at hn
  dsimp only at hn
  subst hn
  by_cases h : n = 0
  · subst h
    obtain ⟨m, q, k, pn, nn, d, kk, hO⟩ := OPR_ex ka kb (kc := kc) largest some hR
    by_cases hk : kk = 0
    · by_cases hr : restN (q.getD 0 0).toNat = 0
      · exact ⟨0, 0, pn, d, p.drop b0, h0, _, _, k, ⟨.inr ⟨rfl, a0, b0, m, q, kk, pn, nn, d, hO, rfl, rfl, .inr (.inr ⟨hk, hr, rfl, rfl, rfl, rfl⟩)⟩⟩⟩
      · exact ⟨0, 4, 0, [], [], h0, _, _, k, ⟨.inr ⟨rfl, a0, b0, m, q, kk, pn, nn, d, hO, rfl, rfl, .inr (.inl ⟨hk, hr, rfl, rfl, rfl, rfl⟩)⟩⟩⟩
    · exact ⟨0, 5, 0, [], [], h0, _, _, k, ⟨.inr ⟨rfl, a0, b0, m, q, kk, pn, nn, d, hO, rfl, rfl, .inl ⟨hk, rfl, rfl, rfl, rfl⟩⟩⟩⟩
  · exact ⟨n, n, 0, [], [], hd0, false, 0, 0, ⟨.inl ⟨h, ⟨h0, a0, b0, hR⟩, rfl, rfl, rfl, rfl, rfl, rfl, rfl, rfl⟩⟩⟩
theorem RES.both {ka kb kc p d r : List UInt8} {largest e1 cd pn C k : Nat} {some ph : Bool} {hd : Hd} (h : RES ka kb kc p largest some e1 cd pn d r hd ph C k) : cd = 0 → e1 = 0 := by
  intro h0
  rcases h.h with ⟨h1, _, h2, _⟩ | ⟨h1, _⟩
  · omega
  · exact h1
theorem RES.none {ka kb kc p d r : List UInt8} {largest e1 cd pn C k : Nat} {some ph : Bool} {hd : Hd} (h : RES ka kb kc p largest some e1 cd pn d r hd ph C k) : e1 ≠ 0 → C = 0 ∧ k = 0 ∧ cd = e1 := by
  intro h0
  rcases h.h with ⟨h1, _, h2, _, _, _, _, _, h3, h4⟩ | ⟨h1, _⟩
  · exact ⟨h3, h4, h2⟩
  · omega
theorem popen_all (w : World) {a : Option Addr} {n c e1 cd pn C k : Nat} {ka kb kc p d r : List UInt8} {hd : Hd} {largest : Nat} {some_ ph : Bool} (hla : largest < 18446744073709551616) (hal : ka.length = 32) (hbl : kb.length = 12) (hcl : kc.length = 32) (hp : BS w a n c p) (hK : KG w) (hn : n ≤ 1073741824) (hD : RES ka kb kc p largest some_ e1 cd pn d r hd ph C k) :
    Calls Tryd.prog 19 #[.agg ((ka ++ kb ++ kc).map B).toArray, .slice a n c, .int .u64 (largest : Int), .bool some_] w fun x w' => ∃ l lv ph' ta tn tc fa fn fc a1 n1 c1 a2 n2 c2 tt ff, x = .returned (.tuple #[.agg #[.bool l, .int .i64 lv, .bool ph', .slice ta tn tc, .slice fa fn fc], .int .u64 (pn : Int), .slice a1 n1 c1, .slice a2 n2 c2, .int .i64 (cd : Int)]) ∧
      BS w' a1 n1 c1 d ∧ BS w' a2 n2 c2 r ∧ BS w' ta tn tc tt ∧ BS w' fa fn fc ff ∧ (cd = 0 → l = hd.long ∧ lv = hd.level ∧ ph' = ph ∧ tt = hd.to ∧ ff = hd.frm) ∧ Below w.heap.size w w' := by
  rcases hD.h with ⟨h0, ⟨hh, x0, y0, hR⟩, rfl, rfl, rfl, rfl, rfl, rfl, rfl, rfl⟩ | ⟨rfl, t, e, m, q, kk, pn0, nn, d0, hO, rfl, rfl, hc⟩
  · refine (popen_err w hal hbl hcl hp hK (by omega) hR (by omega)).mono ?_
    rintro x w' ⟨rfl, hb⟩
    exact ⟨_, _, _, _, _, _, _, _, _, _, _, _, _, _, _, [], [], rfl, RS_nil _ _, RS_nil _ _, RS_nil _ _, RS_nil _ _, fun h => absurd h h0, hb⟩
  · refine (popen_ok w hla hal hbl hcl hp hK hn hO).mono ?_
    rintro x w' ⟨h, hb⟩
    rcases hc with ⟨hk, rfl, rfl, rfl, rfl⟩ | ⟨hk, hr, rfl, rfl, rfl, rfl⟩ | ⟨hk, hr, rfl, rfl, rfl, rfl⟩
    · rcases h with ⟨_, rfl⟩ | ⟨h1, _⟩ | ⟨h1, _⟩
      · exact ⟨_, _, _, _, _, _, _, _, _, _, _, _, _, _, _, [], [], rfl, RS_nil _ _, RS_nil _ _, RS_nil _ _, RS_nil _ _, fun h => absurd h (by decide), hb⟩
      · exact absurd h1 hk
      · exact absurd h1 hk
    · rcases h with ⟨h1, _⟩ | ⟨_, _, rfl⟩ | ⟨_, h1, _⟩
      · exact absurd hk h1
      · exact ⟨_, _, _, _, _, _, _, _, _, _, _, _, _, _, _, [], [], rfl, RS_nil _ _, RS_nil _ _, RS_nil _ _, RS_nil _ _, fun h => absurd h (by decide), hb⟩
      · exact absurd h1 hr
    · rcases h with ⟨h1, _⟩ | ⟨_, h1, _⟩ | ⟨_, _, ta, tn, tc, fa, fn, fc, a1, c1, a2, c2, rfl, hT, hF, h1, h2⟩
      · exact absurd hk h1
      · exact absurd hr h1
      · exact ⟨_, _, _, _, _, _, _, _, _, _, _, _, _, _, _, _, _, rfl, h1, h2, hT, hF, fun _ => ⟨rfl, rfl, rfl, rfl, rfl⟩, hb⟩
theorem ropen_all (w : World) {a : Option Addr} {n c e1 cd pn C k : Nat} {ka kb kc p d r : List UInt8} {hd : Hd} {largest : Nat} {some_ ph : Bool} (hla : largest < 18446744073709551616) (hal : ka.length = 32) (hbl : kb.length = 12) (hcl : kc.length = 32) (hp : BS w a n c p) (hn : n ≤ 65536) (hD : RES ka kb kc p largest some_ e1 cd pn d r hd ph C k) :
    Calls Tryd.prog 20 #[.agg ((ka ++ kb ++ kc).map B).toArray, .slice a n c, .int .u64 (largest : Int), .bool some_] w fun x w' => ∃ l lv ph' ta tn tc fa fn fc a1 n1 c1 a2 n2 c2 tt ff, x = .returned (.tuple #[.agg #[.bool l, .int .i64 lv, .bool ph', .slice ta tn tc, .slice fa fn fc], .int .u64 (pn : Int), .slice a1 n1 c1, .slice a2 n2 c2, .int .u64 (C : Int), .int .i64 (k : Int), .int .i64 (cd : Int)]) ∧
      BS w' a1 n1 c1 d ∧ BS w' a2 n2 c2 r ∧ BS w' ta tn tc tt ∧ BS w' fa fn fc ff ∧ (e1 = 0 → l = hd.long ∧ lv = hd.level ∧ ph' = ph ∧ tt = hd.to ∧ ff = hd.frm) ∧ Below w.heap.size w w' := by
  rcases hD.h with ⟨h0, ⟨hh, x0, y0, hR⟩, rfl, rfl, rfl, rfl, rfl, rfl, rfl, rfl⟩ | ⟨rfl, t, e, m, q, kk, pn0, nn, d0, hO, rfl, rfl, hc⟩
  · refine (ropenp_err w hp (by omega) hR (by omega)).mono ?_
    rintro x w' ⟨rfl, hb⟩
    exact ⟨_, _, _, _, _, _, _, _, _, _, _, _, _, _, _, [], [], rfl, RS_nil _ _, RS_nil _ _, RS_nil _ _, RS_nil _ _, fun h => absurd h h0, hb⟩
  · refine (ropenp_ok w hla hal hbl hcl hp hn hO).mono ?_
    rintro x w' ⟨⟨ta, tn, tc, fa, fn, fc, hT, hF, h⟩, hb⟩
    rcases hc with ⟨hk, rfl, rfl, rfl, rfl⟩ | ⟨hk, hr, rfl, rfl, rfl, rfl⟩ | ⟨hk, hr, rfl, rfl, rfl, rfl⟩
    · rcases h with ⟨_, rfl⟩ | ⟨h1, _⟩ | ⟨h1, _⟩
      · exact ⟨_, _, _, _, _, _, _, _, _, _, _, _, _, _, _, _, _, rfl, RS_nil _ _, RS_nil _ _, hT, hF, fun _ => ⟨rfl, rfl, rfl, rfl, rfl⟩, hb⟩
      · exact absurd h1 hk
      · exact absurd h1 hk
    · rcases h with ⟨h1, _⟩ | ⟨_, _, rfl⟩ | ⟨_, h1, _⟩
      · exact absurd hk h1
      · exact ⟨_, _, _, _, _, _, _, _, _, _, _, _, _, _, _, _, _, rfl, RS_nil _ _, RS_nil _ _, hT, hF, fun _ => ⟨rfl, rfl, rfl, rfl, rfl⟩, hb⟩
      · exact absurd h1 hr
    · rcases h with ⟨h1, _⟩ | ⟨_, h1, _⟩ | ⟨_, _, a1, c1, a2, c2, rfl, h1, h2⟩
      · exact absurd hk h1
      · exact absurd hr h1
      · exact ⟨_, _, _, _, _, _, _, _, _, _, _, _, _, _, _, _, _, rfl, h1, h2, hT, hF, fun _ => ⟨rfl, rfl, rfl, rfl, rfl⟩, hb⟩
theorem peek_all (w : World) {a : Option Addr} {n c e1 cd pn C k : Nat} {ka kb kc p d r : List UInt8} {hd : Hd} {largest : Nat} {some_ ph : Bool} (hcl : kc.length = 32) (hp : BS w a n c p) (hK : KG w) (hn : n ≤ 140737488355328) (hD : RES ka kb kc p largest some_ e1 cd pn d r hd ph C k) :
    Calls Tryd.prog 22 #[.slice a n c, .agg (kc.map B).toArray] w fun x w' => ∃ l lv ph' ta tn tc fa fn fc tt ff, x = .returned (.tuple #[.agg #[.bool l, .int .i64 lv, .bool ph', .slice ta tn tc, .slice fa fn fc], .int .u64 (C : Int), .int .i64 (k : Int), .int .i64 (e1 : Int)]) ∧
      BS w' ta tn tc tt ∧ BS w' fa fn fc ff ∧ (e1 = 0 → l = hd.long ∧ lv = hd.level ∧ ph' = ph ∧ tt = hd.to ∧ ff = hd.frm) ∧ Below w.heap.size w w' := by
  rcases hD.h with ⟨h0, ⟨hh, x0, y0, hR⟩, rfl, rfl, rfl, rfl, rfl, rfl, rfl, rfl⟩ | ⟨rfl, t, e, m, q, kk, pn0, nn, d0, hO, rfl, rfl, hc⟩
  · refine (peek_err w hcl hp hK hn hR (by omega)).mono ?_
    rintro x w' ⟨rfl, hb⟩
    exact ⟨_, _, _, _, _, _, _, _, _, [], [], rfl, RS_nil _ _, RS_nil _ _, fun h => absurd h h0, hb⟩
  · refine (peek_ok w hcl hp hK hn hO.bar).mono ?_
    rintro x w' ⟨ta, tn, tc, fa, fn, fc, rfl, hT, hF, hb⟩
    exact ⟨_, _, _, _, _, _, _, _, _, _, _, rfl, hT, hF, fun _ => ⟨rfl, rfl, rfl, rfl, rfl⟩, hb⟩
end Go.Proofs.YtlncnjcbgfeaoaaDoor

/- law06.ParcelOpens: its walk. -/
set_option maxRecDepth 100000
set_option linter.unusedVariables false
namespace Go.Proofs.YtlncnjcbgfeaoaaDoor
open Go.RowKit Go.Joins
set_option maxHeartbeats 8000000 in
theorem parcelOpens_walk (W : World) {b1 : Option Addr} {n1 c1 : Nat} {sec xs : List UInt8} {a3 : Bool} (hsl : sec.length = 32) (hx : BS W b1 n1 c1 xs) (la : Nat) (hla : la < 18446744073709551616) (hKF : KF W) (hKT : KT W) (hKG : KG W) :
    Calls Tryd.prog 4 #[.agg (sec.map B).toArray, .slice b1 n1 c1, .int .u64 (la : Int), .bool a3] W fun e w' => e = .returned (.bool true) ∧ Below W.heap.size W w' := by
  have hA := AB_box W 22 sec
  have hbl := below_alloc W (.cells (sec.map B).toArray 22)
  have hx1 := RS.alloc hx (.cells (sec.map B).toArray 22)
  have hKF1 := hKF.below hbl (Nat.le_refl _)
  have hKT1 := hKT.below hbl (Nat.le_refl _)
  have hKG1 := hKG.below hbl
  obtain ⟨N, hN⟩ : ∃ N, min n1 400 = N := ⟨_, rfl⟩
  obtain ⟨P, hP⟩ : ∃ P, xs.take N = P := ⟨_, rfl⟩
  have hxl := BS.len hx
  have hPl : P.length = N := by rw [← hP, List.length_take]; omega
  obtain ⟨ka, kb, kc, hks⟩ := KS_ex sec
  have hal := hks.ha.len
  have hbl2 := hks.hb.len
  have hcl := hks.hc.len
  have hkl := hks.len
  obtain ⟨D, hDe⟩ : ∃ D, ka ++ kb ++ kc = D := ⟨_, rfl⟩
  rw [hDe] at hkl
  obtain ⟨e1, cd, pn, d, r, hd, ph, C, k, hres⟩ := RES_ex ka kb kc P la a3
  have hboth := hres.both
  have hnone := hres.none
  have Hdraw := Lib.hid (fun w' (h : KT w') => draw_any w' hsl hks h)
  have Hrdraw := Lib.hid (fun w' (a : Option Addr) (n c : Nat) (h : BS w' a n c sec) (h0 : n ≤ 549755813888) => refDraw_any w' h h0 hks)
  have Hop := Lib.hid (fun w' (a : Option Addr) (n c : Nat) (h : BS w' a n c P) (hK : KG w') (h0 : n ≤ 1073741824) => popen_all w' hla hal hbl2 hcl h hK h0 hres)
  have Hrop := Lib.hid (fun w' (a : Option Addr) (n c : Nat) (h : BS w' a n c P) (h0 : n ≤ 65536) => ropen_all w' hla hal hbl2 hcl h h0 hres)
  have Hpk := Lib.hid (fun w' (a : Option Addr) (n c : Nat) (h : BS w' a n c P) (hK : KG w') (h0 : n ≤ 140737488355328) => peek_all w' hcl h hK h0 hres)
  rw [hDe] at Hdraw Hrdraw Hop Hrop
  have Hpr := Lib.hid (fun (w' : World) (g : Nat) (h : w'.rangeAt g 0 (D.map B)) => (rng_parts (a := ka) (b := kb) (c := kc) (by rw [hDe]; exact h) hal hbl2).2.2)
  have Hcut := Lib.hid (fun w' (h : BS w' b1 n1 c1 xs) => cutP w' h 400 400 N rfl (by omega) hN hP)
  have hi32 := Lib.hid (show (Tryd.prog.info? 22).map (·.size) = some (sec.map B).length by rw [List.length_map, hsl]; kernel_rfl)
  have hic := Lib.hid (show (Tryd.prog.info? 22).map (·.size) = some (kc.map B).length by rw [List.length_map, hcl]; kernel_rfl)
  have hiD := Lib.hid (show (Tryd.prog.info? 35).map (·.size) = some (D.map B).length by rw [List.length_map, hkl]; exact k76)
  have hN4 : N ≤ 400 := by omega
  clear hx hN hP hks hres hDe hKF hKT hKG
  go_enter Tryd.func4, Tryd.ntmps4
  go_upto_region 1 with (fail)
  generalize (World.alloc _ _) = W1 at *
  have l0 := hA.lt
  have hbs := hbl.size
  have Haw := Lib.hid (awake06 W1 hKF1 hKT1)
  go_upto_region 5 with (first
    | (go_at_call 8; refine Haw.out.mono ?_; rintro x w2 ⟨rfl, B2⟩)
    | (go_at_call 9; refine (Hcut.out _ (RS.below hx1 B2 (Nat.le_refl _))).mono ?_; rintro x w3 ⟨a3', c3, rfl, o3, B3⟩)
    | (go_at_call 18; refine (copyP _ o3.rs (by omega)).mono ?_; rintro x w4 ⟨a4, c4, rfl, o4, B4⟩)
    | (at_builtin; refine L_append tB (o4.alloc _) (RS_one _ _ _ rfl) _ _ rfl rfl rfl rfl (by omega) (by unfold maxLen; omega) (by have := B4.size; simp; omega) ?_; intro a5 c5 w5 o5 g5)
    | (refine L_slice_h tB o5.rs N _ _ rfl rfl _ _ rfl rfl rfl (by omega) ?_; intro hq0))
  have b5 : Below w3.heap.size w3 w5 := below_own (B4.alloc B4.size _) (o4.alloc _) g5 (Nat.le_refl _) (by have := B4.size; simp; omega)
  obtain ⟨gq, rfl⟩ : ∃ g, a5 = some ⟨g, 0, none⟩ := by
    rcases o5.shape with ⟨_, h, _⟩ | ⟨g, cur, h1, _⟩
    · omega
    · exact ⟨g, h1⟩
  have hQ5 : QS w5 w3.heap.size gq N c5 P := ⟨o5, hPl⟩
  have b25 := btr B3 b5
  have b15 := btr B2 b25
  have z15 := b15.size
  have hA5 := hA.bl b15 l0
  have rA := hA5.rng
  have k0 := hA5.lt
  have HA5 := Lib.hid hA5
  have HQ5 := Lib.hid hQ5
  have HP5 : Hid (BS w5 a3' N c3 P) := Lib.hid (o3.rs.below b5 (Nat.le_refl _))
  have HB5 := Lib.hid (hbl.trans (b15.mono hbs))
  have HKT5 := Lib.hid (hKT1.below b15 (Nat.le_refl _))
  have HKG5 := Lib.hid (hKG1.below b15)
  clear hq0 g5 o5 o4 B4 o3 B3 B2 hA hbl hx1 b5 b25 b15 hA5 hQ5 Hcut Haw hKF1 hKT1 hKG1
  go_upto_region 6 with (first
    | (refine wpList_load_mid rfl _ _ rfl _ _ rfl (sec.map B) _ rA Tryd.underlying22 rfl hi32.out ?_)
    | (go_at_call 14; refine (Hdraw.out _ HKT5.out).mono ?_; rintro x w6 ⟨rfl, B6⟩)
    | (refine L_storeA rfl _ _ _ rfl rfl rfl (AB_zeros35 _ rfl) k76 (by simp) hkl ?_; intro w7 hD7 hg7))
  have z6 := B6.size
  have b7 : Below w5.heap.size w5 w7 := (B6.alloc z6 _).grown hg7 (by simp; omega) (fun k hk => by cases hk; exact z6)
  obtain ⟨gk, hgk⟩ : ∃ gk, w6.heap.size = gk := ⟨_, rfl⟩
  rw [hgk] at hD7 z6 ⊢
  have rD := hD7.rng
  have k1 := hD7.lt
  have z7 := b7.size
  have HA7 := Lib.hid (HA5.out.bl b7 k0)
  have HQ7 := Lib.hid (show QS w7 w3.heap.size gq N c5 P from ⟨HQ5.out.own.below b7 (Nat.le_refl _), hPl⟩)
  have HP7 := Lib.hid (RS.below HP5.out b7 (Nat.le_refl _))
  have HB7 := Lib.hid (HB5.out.trans (b7.mono HB5.out.size))
  have HKG7 := Lib.hid (HKG5.out.below b7)
  have HD7 := Lib.hid hD7
  clear b7 hg7 B6 hgk hD7 rA HA5 HQ5 HP5 HB5 HKT5 HKG5 Hdraw
  go_upto_region 7 with (first
    | (refine wpList_load_mid rfl _ _ rfl _ _ rfl (D.map B) _ rD Tryd.underlying35 rfl hiD.out ?_)
    | (go_at_call 19; refine (Hop.out _ _ _ _ HQ7.out.bs HKG7.out (by omega)).mono ?_; rintro x w8 ⟨l, lv, ph', ta, tn, tc, fa, fn, fc, p1, m1, d1, p2, m2, d2, tt, ff, rfl, hp1, hp2, hT8, hF8, hh8, B8⟩))
  have z8 := B8.size
  have hH9 : HB (w8.alloc (.cells #[.bool l, .int .i64 lv, .bool ph', .slice ta tn tc, .slice fa fn fc] 43)) w8.heap.size l lv ph' (.slice ta tn tc) (.slice fa fn fc) := heap_alloc_new w8 _
  have b9 := B8.alloc z8 (.cells #[.bool l, .int .i64 lv, .bool ph', .slice ta tn tc, .slice fa fn fc] 43)
  have HT9 := Lib.hid (RS.alloc hT8 (.cells #[.bool l, .int .i64 lv, .bool ph', .slice ta tn tc, .slice fa fn fc] 43))
  have HF9 := Lib.hid (RS.alloc hF8 (.cells #[.bool l, .int .i64 lv, .bool ph', .slice ta tn tc, .slice fa fn fc] 43))
  have HP19 := Lib.hid (RS.alloc hp1 (.cells #[.bool l, .int .i64 lv, .bool ph', .slice ta tn tc, .slice fa fn fc] 43))
  have HP29 := Lib.hid (RS.alloc hp2 (.cells #[.bool l, .int .i64 lv, .bool ph', .slice ta tn tc, .slice fa fn fc] 43))
  generalize (World.alloc _ _) = w9 at *
  obtain ⟨gh, hgh⟩ : ∃ gh, w8.heap.size = gh := ⟨_, rfl⟩
  rw [hgh] at hH9 z8 ⊢
  have lgh := hH9.lt
  have z9 := b9.size
  have HH9 := Lib.hid hH9
  have Hh8 := Lib.hid hh8
  have hA9 := HA7.out.bl b9 HA7.out.lt
  have HA9 := Lib.hid hA9
  have hsec9 := hA9.whole (n := 32) hsl (by omega)
  have HSEC9 := Lib.hid hsec9
  have HD9 := Lib.hid (HD7.out.bl b9 k1)
  have HQ9 := Lib.hid (show QS w9 w3.heap.size gq N c5 P from ⟨HQ7.out.own.below b9 (Nat.le_refl _), hPl⟩)
  have HP9 := Lib.hid (RS.below HP7.out b9 (Nat.le_refl _))
  have HB9 := Lib.hid (HB7.out.trans (b9.mono HB7.out.size))
  have HKG9 := Lib.hid (HKG7.out.below b9)
  clear hT8 hF8 hp1 hp2 hh8 B8 b9 hgh hH9 hA9 hsec9 rD HA7 HD7 HQ7 HP7 HB7 HKG7 Hop
  go_upto_region 8 with (first
    | (go_at_call 13; refine (Hrdraw.out _ _ _ _ HSEC9.out (by omega)).mono ?_; rintro x w10 ⟨rfl, B10⟩)
    | (go_at_call 20; refine (Hrop.out _ _ _ _ (RS.below HP9.out B10 (Nat.le_refl _)) (by omega)).mono ?_; rintro x w11 ⟨l', lv', ph2, ta', tn', tc', fa', fn', fc', p3, m3, d3, p4, m4, d4, tt', ff', rfl, hp3, hp4, hT11, hF11, hh11, B11⟩))
  have b911 := btr B10 B11
  have z11 := b911.size
  have hH12 : HB (w11.alloc (.cells #[.bool l', .int .i64 lv', .bool ph2, .slice ta' tn' tc', .slice fa' fn' fc'] 43)) w11.heap.size l' lv' ph2 (.slice ta' tn' tc') (.slice fa' fn' fc') := heap_alloc_new w11 _
  have b12 := b911.alloc z11 (.cells #[.bool l', .int .i64 lv', .bool ph2, .slice ta' tn' tc', .slice fa' fn' fc'] 43)
  have HT12 := Lib.hid (RS.alloc hT11 (.cells #[.bool l', .int .i64 lv', .bool ph2, .slice ta' tn' tc', .slice fa' fn' fc'] 43))
  have HF12 := Lib.hid (RS.alloc hF11 (.cells #[.bool l', .int .i64 lv', .bool ph2, .slice ta' tn' tc', .slice fa' fn' fc'] 43))
  have hp3' := RS.alloc hp3 (.cells #[.bool l', .int .i64 lv', .bool ph2, .slice ta' tn' tc', .slice fa' fn' fc'] 43)
  have hp4' := RS.alloc hp4 (.cells #[.bool l', .int .i64 lv', .bool ph2, .slice ta' tn' tc', .slice fa' fn' fc'] 43)
  generalize (World.alloc _ _) = w12 at *
  obtain ⟨gr, hgr⟩ : ∃ gr, w11.heap.size = gr := ⟨_, rfl⟩
  rw [hgr] at hH12 z11 ⊢
  have lgr := hH12.lt
  have z12 := b12.size
  have hsm1 := same_any w12 (RS.below HP19.out b12 (Nat.le_refl _)) hp3'
  have hsm2 := same_any w12 (RS.below HP29.out b12 (Nat.le_refl _)) hp4'
  rw [beq_self_eq_true] at hsm1 hsm2
  have Hs1 := Lib.hid hsm1
  have Hs2 := Lib.hid hsm2
  have hH12' := HH9.out.grown (grown_of_below (row := none) b12) (by simp)
  have HHa := Lib.hid hH12'
  have HHb := Lib.hid hH12
  have HTa := Lib.hid (RS.below HT9.out b12 (Nat.le_refl _))
  have HFa := Lib.hid (RS.below HF9.out b12 (Nat.le_refl _))
  have HD12 := Lib.hid (HD9.out.bl b12 (Nat.lt_of_lt_of_le k1 z9))
  have HQ12 := Lib.hid (show QS w12 w3.heap.size gq N c5 P from ⟨HQ9.out.own.below b12 (Nat.le_refl _), hPl⟩)
  have HP12 := Lib.hid (RS.below HP9.out b12 (Nat.le_refl _))
  have HB12 := Lib.hid (HB9.out.trans (b12.mono HB9.out.size))
  have HKG12 := Lib.hid (HKG9.out.below b12)
  have Hh11 := Lib.hid hh11
  have ca := hH12'.cells
  have cb := hH12.cells
  clear hT11 hF11 hp3 hp4 hp3' hp4' hh11 B10 B11 b911 b12 hgr hH12 hH12' hsm1 hsm2 HT9 HF9 HP19 HP29 HH9 HA9 HSEC9 HD9 HQ9 HP9 HB9 HKG9 Hrop Hrdraw
  have hcode : (cd = 0 ∧ e1 = 0) ∨ (cd ≠ 0 ∧ e1 = 0) ∨ (cd ≠ 0 ∧ e1 ≠ 0) := by
    by_cases h : cd = 0
    · exact .inl ⟨h, hboth h⟩
    · by_cases h1 : e1 = 0
      · exact .inr (.inl ⟨h, h1⟩)
      · exact .inr (.inr ⟨h, h1⟩)
  have Hnone := Lib.hid hnone
  clear hboth hnone
  have hgu : IntKind.i64.wrap (N : Int) = (N : Int) := IntWalk.i64_in _ (by omega)
  rcases hcode with ⟨hc0, he0⟩ | ⟨hc0, he0⟩ | ⟨hc0, he0⟩
  · subst hc0 he0
    have ⟨u1, u2, u3, u4, u5⟩ := Hh8.out (by simp)
    have ⟨v1, v2, v3, v4, v5⟩ := Hh11.out (by simp)
    have Hsh := Lib.hid (hsame_any w12 l lv ph' l' lv' ph2 HTa.out HFa.out HT12.out HF12.out (u1.trans v1.symm) (u2.trans v2.symm) (u3.trans v3.symm) (u4.trans v4.symm) (u5.trans v5.symm))
    clear u1 u2 u3 u4 u5 v1 v2 v3 v4 v5
    go_upto_region 10 with (first
      | (go_at_call 15; (with_reducible refine Hs1.out.mono ?_); rintro x w13 ⟨rfl, rfl⟩)
      | (go_at_call 15; (with_reducible refine Hs2.out.mono ?_); rintro x w13 ⟨rfl, rfl⟩)
      | (go_at_call 21; (with_reducible refine Hsh.out.mono ?_); rintro x w14 ⟨rfl, B14⟩))
    clear Hsh
    have hB14 : Below w12.heap.size w12 w14 := B14
    have z14 := hB14.size
    have rD14 := Hpr.out w14 gk (HD12.out.bl hB14 HD12.out.lt).rng
    have hHb14 := HHb.out.grown (grown_of_below (row := none) hB14) (by simp)
    have HHb14 := Lib.hid hHb14
    have HT14 := Lib.hid (RS.below HT12.out hB14 (Nat.le_refl _))
    have HF14 := Lib.hid (RS.below HF12.out hB14 (Nat.le_refl _))
    have HQ14 := Lib.hid (show QS w14 w3.heap.size gq N c5 P from ⟨HQ12.out.own.below hB14 (Nat.le_refl _), hPl⟩)
    have HP14 := Lib.hid (RS.below HP12.out hB14 (Nat.le_refl _))
    have HB14 := Lib.hid (HB12.out.trans (hB14.mono HB12.out.size))
    have Hpk14 := Lib.hid (Hpk.out w14 _ _ _ HQ14.out.bs (HKG12.out.below hB14) (by omega))
    clear hB14 B14 hHb14 Hs1 Hs2 HHa HHb HTa HFa HT12 HF12 HD12 HQ12 HP12 HB12 HKG12 Hpk ca cb
    go_upto_region 11 with (first
      | (refine wpList_load_mid rfl _ _ rfl _ _ rfl (kc.map B) _ rD14 Tryd.underlying22 rfl hic.out ?_)
      | (go_at_call 22; refine Hpk14.out.mono ?_; rintro x w15 ⟨l3, lv3, ph3, ta3, tn3, tc3, fa3, fn3, fc3, tt3, ff3, rfl, hT15, hF15, hh15, B15⟩; have Hh15 := Lib.hid hh15; clear hh15))
    have z15 := B15.size
    have b16 := B15.alloc z15 (.cells #[.bool l3, .int .i64 lv3, .bool ph3, .slice ta3 tn3 tc3, .slice fa3 fn3 fc3] 43)
    have hH16 : HB (w15.alloc (.cells #[.bool l3, .int .i64 lv3, .bool ph3, .slice ta3 tn3 tc3, .slice fa3 fn3 fc3] 43)) w15.heap.size l3 lv3 ph3 (.slice ta3 tn3 tc3) (.slice fa3 fn3 fc3) := heap_alloc_new w15 _
    have HT16 := Lib.hid (RS.alloc hT15 (.cells #[.bool l3, .int .i64 lv3, .bool ph3, .slice ta3 tn3 tc3, .slice fa3 fn3 fc3] 43))
    have HF16 := Lib.hid (RS.alloc hF15 (.cells #[.bool l3, .int .i64 lv3, .bool ph3, .slice ta3 tn3 tc3, .slice fa3 fn3 fc3] 43))
    generalize (World.alloc _ _) = w16 at *
    obtain ⟨gp, hgp⟩ : ∃ gp, w15.heap.size = gp := ⟨_, rfl⟩
    rw [hgp] at hH16 z15 ⊢
    have hHb16 := HHb14.out.grown (grown_of_below (row := none) b16) (by simp)
    have hT16' := RS.below HT14.out b16 (Nat.le_refl _)
    have hF16' := RS.below HF14.out b16 (Nat.le_refl _)
    have hQ16 : QS w16 w3.heap.size gq N c5 P := ⟨HQ14.out.own.below b16 (Nat.le_refl _), hPl⟩
    have hP16 := RS.below HP14.out b16 (Nat.le_refl _)
    have HB16 := Lib.hid (HB14.out.trans (b16.mono HB14.out.size))
    have cp := hH16.cells
    have cr := hHb16.cells
    clear hT15 hF15 B15 b16 hgp HHb14 HT14 HF14 HQ14 HP14 HB14 Hpk14 rD14
    have ⟨u1, u2, u3, u4, u5⟩ := Hh15.out (by simp)
    have ⟨v1, v2, v3, v4, v5⟩ := Hh11.out (by simp)
    have Hsh2 := Lib.hid (hsame_any w16 l3 lv3 ph3 l' lv' ph2 HT16.out HF16.out hT16' hF16' (u1.trans v1.symm) (u2.trans v2.symm) (u3.trans v3.symm) (u4.trans v4.symm) (u5.trans v5.symm))
    clear u1 u2 u3 u4 u5 v1 v2 v3 v4 v5
    have hroom := hQ16.room
    have HQ16 := Lib.hid hQ16
    have HP16 := Lib.hid hP16
    have hsl := runB_hc (some ⟨gq, 0, none⟩) N c5 (N + 1) hroom
    obtain ⟨N1, hN1⟩ : ∃ N1, N + 1 = N1 := ⟨_, rfl⟩
    have hN1i : (N : Int) + 1 = (N1 : Int) := by omega
    rw [hN1] at hsl hroom
    have hNm : (N : Int) < (N1 : Int) := by omega
    have hw1 : IntKind.i64.wrap (N1 : Int) = (N1 : Int) := IntWalk.i64_in _ (by omega)
    have hcmx : c5 ≤ 9223372036854775807 := by have := hQ16.own.rs.max; unfold maxLen at this; omega
    clear hQ16 hP16 hH16 hHb16 hT16' hF16' HT16 HF16 hN1
    go_wp2_with (first
      | (go_at_call 21; (with_reducible refine Hsh2.out.mono ?_); rintro x w17 ⟨rfl, B17⟩; have hq17 : QS w17 w3.heap.size gq N c5 P := ⟨HQ16.out.own.below B17 (Nat.le_refl _), hPl⟩; have hcell := hq17.cell; have hsm3 := same_any w17 hq17.bs (RS.below HP16.out B17 (Nat.le_refl _)); rw [beq_self_eq_true] at hsm3; have Hs3 := Lib.hid hsm3; clear hq17 hsm3)
      | (go_at_call 15; (with_reducible refine Hs3.out.mono ?_); rintro x w18 ⟨rfl, rfl⟩))
    go_ret
    exact ⟨rfl, HB16.out.trans (B17.mono HB16.out.size)⟩
  · subst he0
    have hcd : ((cd : Int) == 0) = false := by simp; omega
    go_upto_region 10 with (first
      | (go_at_call 15; (with_reducible refine Hs1.out.mono ?_); rintro x w13 ⟨rfl, rfl⟩)
      | (go_at_call 15; (with_reducible refine Hs2.out.mono ?_); rintro x w13 ⟨rfl, rfl⟩))
    have B14 : Below w12.heap.size w12 w12 := Below.refl _ _
    generalize hww : w12 = w14 at B14 ⊢
    have hB14 : Below w12.heap.size w12 w14 := by rw [← hww]; exact Below.refl _ _
    clear hww
    have z14 := hB14.size
    have rD14 := Hpr.out w14 gk (HD12.out.bl hB14 HD12.out.lt).rng
    have hHb14 := HHb.out.grown (grown_of_below (row := none) hB14) (by simp)
    have HHb14 := Lib.hid hHb14
    have HT14 := Lib.hid (RS.below HT12.out hB14 (Nat.le_refl _))
    have HF14 := Lib.hid (RS.below HF12.out hB14 (Nat.le_refl _))
    have HQ14 := Lib.hid (show QS w14 w3.heap.size gq N c5 P from ⟨HQ12.out.own.below hB14 (Nat.le_refl _), hPl⟩)
    have HP14 := Lib.hid (RS.below HP12.out hB14 (Nat.le_refl _))
    have HB14 := Lib.hid (HB12.out.trans (hB14.mono HB12.out.size))
    have Hpk14 := Lib.hid (Hpk.out w14 _ _ _ HQ14.out.bs (HKG12.out.below hB14) (by omega))
    clear hB14 B14 hHb14 Hs1 Hs2 HHa HHb HTa HFa HT12 HF12 HD12 HQ12 HP12 HB12 HKG12 Hpk ca cb
    go_upto_region 11 with (first
      | (refine wpList_load_mid rfl _ _ rfl _ _ rfl (kc.map B) _ rD14 Tryd.underlying22 rfl hic.out ?_)
      | (go_at_call 22; refine Hpk14.out.mono ?_; rintro x w15 ⟨l3, lv3, ph3, ta3, tn3, tc3, fa3, fn3, fc3, tt3, ff3, rfl, hT15, hF15, hh15, B15⟩; have Hh15 := Lib.hid hh15; clear hh15))
    have z15 := B15.size
    have b16 := B15.alloc z15 (.cells #[.bool l3, .int .i64 lv3, .bool ph3, .slice ta3 tn3 tc3, .slice fa3 fn3 fc3] 43)
    have hH16 : HB (w15.alloc (.cells #[.bool l3, .int .i64 lv3, .bool ph3, .slice ta3 tn3 tc3, .slice fa3 fn3 fc3] 43)) w15.heap.size l3 lv3 ph3 (.slice ta3 tn3 tc3) (.slice fa3 fn3 fc3) := heap_alloc_new w15 _
    have HT16 := Lib.hid (RS.alloc hT15 (.cells #[.bool l3, .int .i64 lv3, .bool ph3, .slice ta3 tn3 tc3, .slice fa3 fn3 fc3] 43))
    have HF16 := Lib.hid (RS.alloc hF15 (.cells #[.bool l3, .int .i64 lv3, .bool ph3, .slice ta3 tn3 tc3, .slice fa3 fn3 fc3] 43))
    generalize (World.alloc _ _) = w16 at *
    obtain ⟨gp, hgp⟩ : ∃ gp, w15.heap.size = gp := ⟨_, rfl⟩
    rw [hgp] at hH16 z15 ⊢
    have hHb16 := HHb14.out.grown (grown_of_below (row := none) b16) (by simp)
    have hT16' := RS.below HT14.out b16 (Nat.le_refl _)
    have hF16' := RS.below HF14.out b16 (Nat.le_refl _)
    have hQ16 : QS w16 w3.heap.size gq N c5 P := ⟨HQ14.out.own.below b16 (Nat.le_refl _), hPl⟩
    have hP16 := RS.below HP14.out b16 (Nat.le_refl _)
    have HB16 := Lib.hid (HB14.out.trans (b16.mono HB14.out.size))
    have cp := hH16.cells
    have cr := hHb16.cells
    clear hT15 hF15 B15 b16 hgp HHb14 HT14 HF14 HQ14 HP14 HB14 Hpk14 rD14
    have ⟨u1, u2, u3, u4, u5⟩ := Hh15.out (by simp)
    have ⟨v1, v2, v3, v4, v5⟩ := Hh11.out (by simp)
    have Hsh2 := Lib.hid (hsame_any w16 l3 lv3 ph3 l' lv' ph2 HT16.out HF16.out hT16' hF16' (u1.trans v1.symm) (u2.trans v2.symm) (u3.trans v3.symm) (u4.trans v4.symm) (u5.trans v5.symm))
    clear u1 u2 u3 u4 u5 v1 v2 v3 v4 v5
    have hroom := hQ16.room
    have HQ16 := Lib.hid hQ16
    have HP16 := Lib.hid hP16
    have hsl := runB_hc (some ⟨gq, 0, none⟩) N c5 (N + 1) hroom
    obtain ⟨N1, hN1⟩ : ∃ N1, N + 1 = N1 := ⟨_, rfl⟩
    have hN1i : (N : Int) + 1 = (N1 : Int) := by omega
    rw [hN1] at hsl hroom
    have hNm : (N : Int) < (N1 : Int) := by omega
    have hw1 : IntKind.i64.wrap (N1 : Int) = (N1 : Int) := IntWalk.i64_in _ (by omega)
    have hcmx : c5 ≤ 9223372036854775807 := by have := hQ16.own.rs.max; unfold maxLen at this; omega
    clear hQ16 hP16 hH16 hHb16 hT16' hF16' HT16 HF16 hN1
    go_wp2_with (first
      | (go_at_call 21; (with_reducible refine Hsh2.out.mono ?_); rintro x w17 ⟨rfl, B17⟩; have hq17 : QS w17 w3.heap.size gq N c5 P := ⟨HQ16.out.own.below B17 (Nat.le_refl _), hPl⟩; have hcell := hq17.cell; have hsm3 := same_any w17 hq17.bs (RS.below HP16.out B17 (Nat.le_refl _)); rw [beq_self_eq_true] at hsm3; have Hs3 := Lib.hid hsm3; clear hq17 hsm3)
      | (go_at_call 15; (with_reducible refine Hs3.out.mono ?_); rintro x w18 ⟨rfl, rfl⟩))
    go_ret
    exact ⟨rfl, HB16.out.trans (B17.mono HB16.out.size)⟩
  · obtain ⟨rfl, rfl, rfl⟩ := Hnone.out he0
    have hcd : ((cd : Int) == 0) = false := by simp; omega
    go_upto_region 10 with (first
      | (go_at_call 15; (with_reducible refine Hs1.out.mono ?_); rintro x w13 ⟨rfl, rfl⟩)
      | (go_at_call 15; (with_reducible refine Hs2.out.mono ?_); rintro x w13 ⟨rfl, rfl⟩))
    have B14 : Below w12.heap.size w12 w12 := Below.refl _ _
    generalize hww : w12 = w14 at B14 ⊢
    have hB14 : Below w12.heap.size w12 w14 := by rw [← hww]; exact Below.refl _ _
    clear hww
    have z14 := hB14.size
    have rD14 := Hpr.out w14 gk (HD12.out.bl hB14 HD12.out.lt).rng
    have hHb14 := HHb.out.grown (grown_of_below (row := none) hB14) (by simp)
    have HHb14 := Lib.hid hHb14
    have HT14 := Lib.hid (RS.below HT12.out hB14 (Nat.le_refl _))
    have HF14 := Lib.hid (RS.below HF12.out hB14 (Nat.le_refl _))
    have HQ14 := Lib.hid (show QS w14 w3.heap.size gq N c5 P from ⟨HQ12.out.own.below hB14 (Nat.le_refl _), hPl⟩)
    have HP14 := Lib.hid (RS.below HP12.out hB14 (Nat.le_refl _))
    have HB14 := Lib.hid (HB12.out.trans (hB14.mono HB12.out.size))
    have Hpk14 := Lib.hid (Hpk.out w14 _ _ _ HQ14.out.bs (HKG12.out.below hB14) (by omega))
    clear hB14 B14 hHb14 Hs1 Hs2 HHa HHb HTa HFa HT12 HF12 HD12 HQ12 HP12 HB12 HKG12 Hpk ca cb
    go_upto_region 11 with (first
      | (refine wpList_load_mid rfl _ _ rfl _ _ rfl (kc.map B) _ rD14 Tryd.underlying22 rfl hic.out ?_)
      | (go_at_call 22; refine Hpk14.out.mono ?_; rintro x w15 ⟨l3, lv3, ph3, ta3, tn3, tc3, fa3, fn3, fc3, tt3, ff3, rfl, hT15, hF15, hh15, B15⟩; have Hh15 := Lib.hid hh15; clear hh15))
    have z15 := B15.size
    have b16 := B15.alloc z15 (.cells #[.bool l3, .int .i64 lv3, .bool ph3, .slice ta3 tn3 tc3, .slice fa3 fn3 fc3] 43)
    have hH16 : HB (w15.alloc (.cells #[.bool l3, .int .i64 lv3, .bool ph3, .slice ta3 tn3 tc3, .slice fa3 fn3 fc3] 43)) w15.heap.size l3 lv3 ph3 (.slice ta3 tn3 tc3) (.slice fa3 fn3 fc3) := heap_alloc_new w15 _
    have HT16 := Lib.hid (RS.alloc hT15 (.cells #[.bool l3, .int .i64 lv3, .bool ph3, .slice ta3 tn3 tc3, .slice fa3 fn3 fc3] 43))
    have HF16 := Lib.hid (RS.alloc hF15 (.cells #[.bool l3, .int .i64 lv3, .bool ph3, .slice ta3 tn3 tc3, .slice fa3 fn3 fc3] 43))
    generalize (World.alloc _ _) = w16 at *
    obtain ⟨gp, hgp⟩ : ∃ gp, w15.heap.size = gp := ⟨_, rfl⟩
    rw [hgp] at hH16 z15 ⊢
    have hHb16 := HHb14.out.grown (grown_of_below (row := none) b16) (by simp)
    have hT16' := RS.below HT14.out b16 (Nat.le_refl _)
    have hF16' := RS.below HF14.out b16 (Nat.le_refl _)
    have hQ16 : QS w16 w3.heap.size gq N c5 P := ⟨HQ14.out.own.below b16 (Nat.le_refl _), hPl⟩
    have hP16 := RS.below HP14.out b16 (Nat.le_refl _)
    have HB16 := Lib.hid (HB14.out.trans (b16.mono HB14.out.size))
    have cp := hH16.cells
    have cr := hHb16.cells
    clear hT15 hF15 B15 b16 hgp HHb14 HT14 HF14 HQ14 HP14 HB14 Hpk14 rD14
    have hsm3 := same_any w16 hQ16.bs hP16
    rw [beq_self_eq_true] at hsm3
    have Hs3 := Lib.hid hsm3
    clear hsm3 hQ16 hP16 hH16 hHb16 hT16' hF16' HT16 HF16
    go_wp2_with (go_at_call 15; (with_reducible refine Hs3.out.mono ?_); rintro x w18 ⟨rfl, rfl⟩)
    go_ret
    exact ⟨rfl, HB16.out⟩
end Go.Proofs.YtlncnjcbgfeaoaaDoor
