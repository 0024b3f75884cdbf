/- pipe: Read of a stream that came whole. -/
import Derived.Test.YteekafpkbdbadaaRC
import Derived.Test.YteekafpkbdbadaaQZ
set_option maxRecDepth 100000
set_option linter.unusedVariables false
namespace Go.Proofs.Yteekafpkbdbadaa.Pi
open Go.RowKit
theorem results_tmp4 {fn : Func} {t u v x : Tmp} (h : fn.results = #[.tmp t, .tmp u, .tmp v, .tmp x]) (tmps : Array Value) (P : Program) (w : World) :
    (results fn tmps).run P w = .ok (.tuple #[tmps.getD t undef, tmps.getD u undef, tmps.getD v undef, tmps.getD x undef]) w := by
  simp [results, h]
def tookT (t : TiS) (n : Nat) : TiS := { t with t := if n ≤ t.c - t.t then t.t + n else t.t }
/-- the part, read to its end -/
def inR (i : InS) (n : Nat) : InS := { i with qu := ⟨[], n, n, n, true⟩, ti := tookT i.ti n }
def readT (T : TaS) (id : Nat) (i : InS) (n : Nat) : TaS := Pi.setIn (tellS { (Pi.setIn (Pi.setIn T id { i with qu := ⟨[], n, n, n, true⟩ }) id (inR i n)) with ti := tookT T.ti n } id (inR i n)) id { (inR i n) with ti := newsL (inR i n).ti, done := true }
def readS (T : TaS) (id : Nat) (i : InS) (n : Nat) : TaS := Pi.setSo (Pi.setPast (readT T id i n) id) (od id) (wy id) { T.so (od id) (wy id) with may := min ((T.so (od id) (wy id)).may + 1) 1152921504606846976, news := 1 }
/-- a part to receive of a table, and where it lies -/
structure RP (w : World) (role : Nat → Nat) (g : Nat) (T : TaS) (Y : TaY) (id ib ti qb : Nat) (s : StS) (i : InS) : Prop where
  z : TZ w role g T Y
  p : IP w role (rid id) ib ti qb i
  c : w.cell? ⟨Y.sb id, 6, none⟩ = some (ptr ib)
  l : T.l id = some s
  i : s.inn = some i
section
variable {w w' : World} {role : Nat → Nat} {g : Nat} {T : TaS} {Y : TaY} {id ib ti qb : Nat} {s : StS} {i : InS}
theorem RP.bel (h : RP w role g T Y id ib ti qb s i) (hb : Below w.heap.size w w') : RP w' role g T Y id ib ti qb s i :=
  ⟨h.z.bel hb, h.p.bel hb h.z.top, h.z.keep6 h.l (Stq.bel (R := fun _ => False) hb h.z.top).kq (fun h => h) h.c, h.l, h.i⟩
theorem RP.setI (h : RP w role g T Y id ib ti qb s i) (i' : InS) (st : Stq (fun r => rid id + 8 ≤ r ∧ r < rid id + 16) w w' role role) (hp : IP w' role (rid id) ib ti qb i') : RP w' role g (Pi.setIn T id i') Y id ib ti qb { s with inn := some i' } i' ∧ Stq (fun r => r ≠ 0) w w' role role := by
  have z := h.z.setIn h.l h.i i' st (fun ib' e1 e2 => by
    rw [h.c] at e1
    unfold ptr at e1
    simp at e1
    subst e1
    exact hp.inz)
  exact ⟨⟨z.1, hp, h.z.keep6 h.l st.kq (by omega) h.c, setIn_l h.l, rfl⟩, z.2⟩
theorem RP.setT (h : RP w role g T Y id ib ti qb s i) (t : TiS) (hg : w.grownBy w' (some Y.ti)) (hc : TiZ w' Y.ti t.wi t.l t.c t.t) : RP w' role g { T with ti := t } Y id ib ti qb s i ∧ Stq (fun r => r ≠ 0) w w' role role := by
  have s9 : Stq (fun r => r = 9) w w' role role := Stq.grown hg h.z.ti.2 h.z.top
  have z := h.z.setTi t hg hc
  exact ⟨⟨z.1, h.p.stq s9.kq (fun j _ _ => by unfold rid; omega), h.z.keep6 h.l s9.kq (by unfold rid; omega) h.c, h.l, h.i⟩, z.2⟩
theorem RP.get (h : TZ w role g T Y) (hc : w.cell? ⟨Y.sb id, 6, none⟩ = some (ptr ib)) (hl : T.l id = some s) (hi : s.inn = some i) : ∃ ti qb, RP w role g T Y id ib ti qb s i := by
  obtain ⟨ib', e, hz⟩ := h.inz hl hi
  rw [hc] at e
  unfold ptr at e
  simp at e
  subst e
  obtain ⟨ti, qb, hp⟩ := hz.ip
  exact ⟨ti, qb, h, hp, hc, hl, hi⟩
set_option maxHeartbeats 4000000 in
theorem read_one (h : TZ w role g T Y) {m n : Nat} {p : List UInt8} (hid : id < 18446744073709551616) (hs : T.l id = some s) (hi : s.inn = some i) (ho : s.out = none) (hpa : s.past = false) (hd : i.done = false) (hr : i.reset = false) (hq : i.qu = ⟨[(0, p)], 0, n, n, true⟩) (hpl : p.length = n) (h0 : 0 < n) (hn : n ≤ 1200) (hm : n ≤ m) (hm2 : m < 1000000)
    (hw : (od id == T.srv) = false) (hmb : (T.so (od id) (wy id)).may < 4611686018427387904) (b1 : TB (tookT T.ti n)) (b2 : TB (tookT i.ti n)) (c1 : T.ti.t ≤ T.ti.c ∧ T.ti.c < 18446744073709551616) (c2 : i.ti.t ≤ i.ti.c ∧ i.ti.c < 18446744073709551616) :
    Calls Try.prog 17 #[ptr g, .int .u64 (id : Int), .int .i64 (m : Int)] w fun e w' => (∃ a c, e = .returned (.tuple #[.slice a n c, .bool true, .int .u64 0, .int .i64 0])) ∧ TZ w' role g (readS T id i n) Y ∧ Stq (fun r => r ≠ 0) w w' role role := by
  obtain ⟨ib, hib, hz⟩ := h.inz hs hi
  obtain ⟨ti, qb, hp⟩ := hz.ip
  have R0 := Lib.hid (⟨h, hp, hib, hs, hi⟩ : RP w role g T Y id ib ti qb s i)
  have HRC := Lib.hid (receiver_any h hid hs hib)
  have HTK := Lib.hid (take_one (by rw [← hq]; exact hp.qz) hpl h0 hn hm hm2 h.top)
  have HX := Lib.hid (⟨hid, ho, hpa, hw, hmb, b1, b2, c1, c2⟩ : id < 18446744073709551616 ∧ s.out = none ∧ s.past = false ∧ (od id == T.srv) = false ∧ (T.so (od id) (wy id)).may < 4611686018427387904 ∧ TB (tookT T.ti n) ∧ TB (tookT i.ti n) ∧ (T.ti.t ≤ T.ti.c ∧ T.ti.c < 18446744073709551616) ∧ (i.ti.t ≤ i.ti.c ∧ i.ti.c < 18446744073709551616))
  have l6 : IntKind.u64.wrap (n : Int) = (n : Int) := IntWalk.u64_in _ (by omega)
  have i2 : w.cell? ⟨ib, 2, none⟩ = some (.bool false) := by rw [← hr]; exact hp.ic.cr.at_ 2
  have i5 : w.cell? ⟨ib, 5, none⟩ = some (.bool false) := by rw [← hd]; exact hp.ic.cr.at_ 5
  have i1 : w.cell? ⟨ib, 1, none⟩ = some (.pointer (some ⟨qb, 0, none⟩)) := hp.ic.cr.at_ 1
  unfold ptr at HRC HTK ⊢
  clear h hid hs hi ho hpa hd hr hq hpl h0 hn hm hm2 hw hmb b1 b2 c1 c2 hib hz hp
  go_enter Try.func17, Try.ntmps17
  go_upto_region 12 with (first
    | (go_at_call 34; refine HRC.out.mono ?_; rintro x w1 ⟨rfl, rfl⟩)
    | (go_at_call 36; refine HTK.out.mono ?_; rintro x w2 ⟨⟨a2, c2, rfl⟩, q2, t2⟩))
  have R2 := R0.out.setI { i with qu := ⟨[], n, n, n, true⟩ } (t2.mono (fun r hr => by omega)) ⟨R0.out.p.ic.stq t2.kq (by omega), (cr_stq R0.out.p.tz R0.out.p.tr t2.kq (by omega)).1, R0.out.p.tr, q2⟩
  have H2 := Lib.hid R2
  clear i2 i5 i1 q2 t2 R2
  have i0 : w2.cell? ⟨ib, 0, none⟩ = some (.pointer (some ⟨ti, 0, none⟩)) := H2.out.1.p.ic.cr.at_ 0
  have HK1 := Lib.hid (ttook_any H2.out.1.p.tz n HX.out.2.2.2.2.2.2.2.2.1 HX.out.2.2.2.2.2.2.2.2.2)
  unfold ptr at HK1
  go_upto_region 13 with (go_at_call 37; refine HK1.out.mono ?_; rintro x w3 ⟨⟨r3, rfl⟩, t3, g3⟩)
  have ip3 := H2.out.1.p.setTi (tookT i.ti n) g3 t3 H2.out.1.z.top
  have R3 := H2.out.1.setI (inR i n) (ip3.2.mono (fun r hr => by omega)) ip3.1
  have H3 := Lib.hid R3
  clear i0 t3 g3 ip3 R3
  have g12 : w3.cell? ⟨g, 12, none⟩ = some (.pointer (some ⟨Y.ti, 0, none⟩)) := H3.out.1.z.row.cr.at_ 12
  have HK2 := Lib.hid (ttook_any H3.out.1.z.ti.1 n HX.out.2.2.2.2.2.2.2.1.1 HX.out.2.2.2.2.2.2.2.1.2)
  unfold ptr at HK2
  go_upto_region 14 with (go_at_call 37; refine HK2.out.mono ?_; rintro x w4 ⟨⟨r4, rfl⟩, t4, g4⟩)
  have R4 := H3.out.1.setT (tookT T.ti n) g4 t4
  have H4 := Lib.hid R4
  clear g12 t4 g4 R4
  have HTE := Lib.hid (tell_end H4.out.1.z HX.out.1 H4.out.1.l H4.out.1.i H4.out.1.c H4.out.1.p.inz rfl HX.out.2.2.2.2.2.1 HX.out.2.2.2.2.2.2.1)
  unfold ptr at HTE
  go_upto_region 16 with (go_at_call 38; refine HTE.out.mono ?_; rintro x w5 ⟨rfl, z5, t5, c5⟩)
  obtain ⟨ti5, qb5, r5⟩ := RP.get z5 c5 (setIn_l H4.out.1.l) rfl
  have H5 := Lib.hid (And.intro r5 t5)
  clear z5 t5 c5 r5
  go_upto_region 17 with (refine L_store1 rfl 4 _ _ rfl (i := 5) (v := .bool true) H5.out.1.p.ic.cr rfl rfl (by kernel_rfl) (Nat.le_of_ble_eq_true rfl) rfl ?_; intro w6 hc6 hg6)
  have s6 : Stq (fun x => x = rid id + 8) w5 w6 role role := Stq.grown hg6 H5.out.1.p.ic.rb H5.out.1.z.top
  have R6 := H5.out.1.setI { (inR i n) with ti := newsL (inR i n).ti, done := true } (s6.mono (fun r hr => by omega)) ⟨⟨hc6, H5.out.1.p.ic.rb⟩, (cr_stq H5.out.1.p.tz H5.out.1.p.tr s6.kq (by omega)).1, H5.out.1.p.tr, H5.out.1.p.qz.stq s6.kq (fun j _ _ => by omega)⟩
  have H6 := Lib.hid R6
  clear hc6 hg6 s6 R6
  have HOV := Lib.hid (over_end H6.out.1.z HX.out.1 H6.out.1.l H6.out.1.i HX.out.2.1 HX.out.2.2.1 rfl HX.out.2.2.2.1 HX.out.2.2.2.2.1)
  unfold ptr at HOV
  go_wp2_with (go_at_call 35; refine HOV.out.mono ?_; rintro x w7 ⟨rfl, z7, t7⟩)
  (try simp only [Exit.inBlock, Exit.then])
  refine bodyPost_ret (results_tmp4 rfl _ _ _) rfl ?_
  exact ⟨⟨a2, c2, rfl⟩, z7, ((((H2.out.2.trans H3.out.2).trans H4.out.2).trans H5.out.2).trans H6.out.2).trans t7⟩
end
end Go.Proofs.Yteekafpkbdbadaa.Pi
