/- pipe: make. -/
import Derived.Test.YteekafpkbdbadaaOE
set_option maxRecDepth 100000
set_option linter.unusedVariables false
namespace Go.Proofs.Yteekafpkbdbadaa.Pi
open Go.RowKit
/-- a part to send, a part to receive, at their beginning -/
def ou0 (w : Nat) : OuS := ⟨min w 4611686018427387903, 0, [], 0, 0, [], [], false, 0, 0, 0⟩
def in0 (w : Nat) : InS := ⟨⟨min w 4611686018427387903, min w 4611686018427387903, 0, 0⟩, ⟨[], 0, 0, 0, false⟩, false, 0, false, false, 0, 0, 0⟩
def stN (T : TaS) (id : Nat) : StS := ⟨0, 0, 0, false, if od id == T.srv || !wy id then some (ou0 T.pe.w) else none, if !(od id == T.srv) || !wy id then some (in0 T.ow.w) else none⟩
def makeS (T : TaS) (id : Nat) : TaS := { T with ids := T.ids ++ [id], l := fun j => if j = id then some (stN T id) else T.l j }
/-- what make holds on its way -/
structure MK (w : World) (role : Nat → Nat) (g : Nat) (T : TaS) (Y : TaY) (id : Nat) (W : World) (ρ : Nat → Nat) (sb : Nat) (cs : List Value) : Prop where
  st : Stq (inSt id) w W role ρ
  tz : TZ W ρ g T Y
  cx : CX W ρ (rid id) sb 79 cs
  nw : T.l id = none
section
variable {w W W' : World} {role ρ : Nat → Nat} {g id sb : Nat} {T : TaS} {Y : TaY} {cs : List Value}
theorem inSt_off {id id' j : Nat} (h : id' ≠ id) (hj : j < 16) : ¬ inSt id (rid id' + j) := by unfold inSt rid; omega
theorem inSt_15 {id r : Nat} (h : r < 16) : ¬ inSt id r := by unfold inSt rid; omega
theorem tz_in {ρ' : Nat → Nat} (h : TZ W ρ g T Y) (hn : T.l id = none) (s : Stq (inSt id) W W' ρ ρ') : TZ W' ρ' g T Y :=
  h.stq s (fun r _ h2 => inSt_15 h2) (fun i hi j hj => inSt_off (fun he => hi (by rw [he]; exact hn)) hj)
theorem MK.bel (h : MK w role g T Y id W ρ sb cs) (hb : Below W.heap.size W W') : MK w role g T Y id W' ρ sb cs :=
  ⟨h.st.trans (Stq.bel hb h.tz.top), h.tz.bel hb, h.cx.stq (Kq.bel hb (fun _ _ => rfl)) (fun h => h), h.nw⟩
theorem MK.fresh (h : MK w role g T Y id W ρ sb cs) (hb : Below W.heap.size W W') {b r : Nat} (h1 : W.heap.size ≤ b) (h2 : b < W'.heap.size) (hr : inSt id r) : MK w role g T Y id W' (upd ρ b r) sb cs := by
  have s := Stq.fresh (R := inSt id) (r := r) hb h.tz.top h1 h2 hr
  exact ⟨h.st.trans s, tz_in h.tz h.nw s, h.cx.stq (Kq.bel hb (fun k hk => upd_ne (by omega))) (fun h => h), h.nw⟩
theorem MK.set (h : MK w role g T Y id W ρ sb cs) (i : Nat) (v : Value) : MK w role g T Y id (W.setCell ⟨sb, i, none⟩ v) ρ sb (cs.set i v) := by
  have s : Stq (inSt id) W (W.setCell ⟨sb, i, none⟩ v) ρ ρ := Stq.grown (grown_set W sb i v) (by rw [h.cx.rb]; unfold inSt; omega) h.tz.top
  exact ⟨h.st.trans s, tz_in h.tz h.nw s, ⟨h.cx.cr.set i v, h.cx.rb⟩, h.nw⟩
theorem kq_fresh {b r : Nat} (hb : Below W.heap.size W W') (h1 : W.heap.size ≤ b) : Kq (fun _ => False) W W' ρ (upd ρ b r) := Kq.bel hb (fun k hk => upd_ne (by omega))
theorem kq_set (h : CX W ρ (rid id) sb 79 cs) (i : Nat) (v : Value) : Kq (fun r => r = rid id) W (W.setCell ⟨sb, i, none⟩ v) ρ ρ :=
  ⟨rfl, rfl, rfl, by simp [World.setCell], fun k hk hn => (grown_set W sb i v).block k hk (fun he => by injection he with he; subst he; exact hn h.rb), fun _ _ => rfl⟩
/-- a new part to send -/
theorem ou_made {W1 W2 W3 W4 : World} {r pl : Nat} (hp : PuZ W1 W.heap.size pl 0) (b1 : Below W.heap.size W W1) (ht : CR W2 W1.heap.size 118 [SA0.v]) (b2 : Below W1.heap.size W1 W2) (ha : CR W3 W2.heap.size 118 [SA0.v]) (b3 : Below W2.heap.size W2 W3)
    (ho : CR W4 W3.heap.size 82 [ptr W.heap.size, SA0.v, u64 0, u64 0, ptr W1.heap.size, ptr W2.heap.size, .bool false, .int .i64 0, .int .i64 0, u64 0]) (b4 : Below W3.heap.size W3 W4) :
    OuZ W4 (upd (upd (upd (upd ρ W.heap.size (r + 2)) W1.heap.size (r + 4)) W2.heap.size (r + 6)) W3.heap.size (r + 1)) r W3.heap.size ⟨pl, 0, [], 0, 0, [], [], false, 0, 0, 0⟩ := by
  have l1 := CR.lt hp
  have l2 := ht.lt
  have l3 := ha.lt
  have l4 := ho.lt
  refine ⟨W.heap.size, W1.heap.size, W2.heap.size, SA0, ⟨ho, upd_same _ _ _⟩, ⟨CR.bel (CR.bel (CR.bel hp b2) b3) b4, ?_⟩, OXZ.nil _ _ _ _ _, ⟨SA0, ⟨(ht.bel b3).bel b4, ?_⟩, OXZ.nil _ _ _ _ _⟩, ⟨SA0, ⟨ha.bel b4, ?_⟩, OXZ.nil _ _ _ _ _⟩⟩
  · rw [upd_ne (by omega), upd_ne (by omega), upd_ne (by omega), upd_same]
  · rw [upd_ne (by omega), upd_ne (by omega), upd_same]
  · rw [upd_ne (by omega), upd_same]
/-- a new part to receive -/
theorem in_made {W1 W2 W3 : World} {r wi : Nat} (hp : TiZ W1 W.heap.size wi wi 0 0) (b1 : Below W.heap.size W W1) (hq : CR W2 W1.heap.size 111 [SA0.v, u64 0, u64 0, u64 0, .bool false]) (b2 : Below W1.heap.size W1 W2)
    (hi : CR W3 W2.heap.size 89 [ptr W.heap.size, ptr W1.heap.size, .bool false, u64 0, .bool false, .bool false, .int .i64 0, u64 0, .int .i64 0]) (b3 : Below W2.heap.size W2 W3) :
    InZ W3 (upd (upd (upd ρ W.heap.size (r + 9)) W1.heap.size (r + 10)) W2.heap.size (r + 8)) r W2.heap.size ⟨⟨wi, wi, 0, 0⟩, ⟨[], 0, 0, 0, false⟩, false, 0, false, false, 0, 0, 0⟩ := by
  have l1 := CR.lt hp
  have l2 := hq.lt
  have l3 := hi.lt
  refine ⟨W.heap.size, W1.heap.size, ⟨hi, upd_same _ _ _⟩, ⟨CR.bel (CR.bel hp b2) b3, ?_⟩, ⟨SA0, [], ⟨hq.bel b3, ?_⟩, OXZ.nil _ _ _ _ _, .nil, fun _ => rfl⟩⟩
  · rw [upd_ne (by omega), upd_ne (by omega), upd_same]
  · rw [upd_ne (by omega), upd_same]
/-- the new stream is in the table -/
theorem MK.done {ob ib : Option Nat} (h : MK w role g T Y id W ρ sb [u64 id, u64 0, u64 0, u64 0, .bool false, pv ob, pv ib]) {s : StS} (hs : s.r0 = 0 ∧ s.r1 = 0 ∧ s.r2 = 0 ∧ s.past = false) (ho : s.out = none ↔ ob = none) (hi : s.inn = none ↔ ib = none)
    (hO : ∀ o b', s.out = some o → ob = some b' → OuZ W ρ (rid id) b' o) (hI : ∀ i b', s.inn = some i → ib = some b' → InZ W ρ (rid id) b' i)
    (hl : LM W' Y.ml (Y.n + 1) (fun j => if j = id then some sb else (T.l j).map fun _ => Y.sb j)) (hg : W.grownBy W' (some Y.ml)) :
    TZ W' ρ g { T with ids := T.ids ++ [id], l := fun j => if j = id then some s else T.l j } { Y with n := Y.n + 1, sb := fun j => if j = id then sb else Y.sb j } ∧ Stq (fun r => r ≠ 0) w W' role ρ := by
  have r2 := h.tz.lm.2
  have s2 : Stq (fun r => r = 2) W W' ρ ρ := Stq.grown hg r2 h.tz.top
  have hne : ∀ r, r ≠ 2 → ¬ (fun r => r = 2) r := fun r h1 h2 => h1 h2
  have k2 := s2.kq
  refine ⟨⟨h.tz.row.stq k2 (hne _ (by decide)), ⟨?_, r2⟩, ⟨⟨h.tz.sm.1.choose, (h.tz.sm.1.choose_spec.stq h.tz.sm.2 k2 (hne _ (by decide))).1⟩, h.tz.sm.2⟩, fun a b => (h.tz.so a b).stq k2 (hne _ (by unfold rso; omega)), cr_stq h.tz.pu.1 h.tz.pu.2 k2 (hne _ (by decide)), cr_stq h.tz.ti.1 h.tz.ti.2 k2 (hne _ (by decide)), h.tz.ca.stq k2 (hne _ (by decide)), ?_, ?_, s2.top⟩, ?_⟩
  · have he : (fun j => (if j = id then some s else T.l j).map fun _ => (if j = id then sb else Y.sb j)) = (fun j => if j = id then some sb else (T.l j).map fun _ => Y.sb j) := by
      funext j
      by_cases hj : j = id
      · simp [hj]
      · simp [hj]
    show LM W' Y.ml (Y.n + 1) (fun j => (if j = id then some s else T.l j).map fun _ => (if j = id then sb else Y.sb j))
    rw [he]; exact hl
  · intro j x hx
    by_cases hj : j = id
    · subst hj
      simp only [if_true] at hx ⊢
      cases hx
      obtain ⟨h0, h1, h2, h3⟩ := hs
      refine ⟨ob, ib, ?_, ho, hi, fun o b' e1 e2 => (hO o b' e1 e2).stq k2 (fun q _ _ => hne _ (by unfold rid; omega)), fun i b' e1 e2 => (hI i b' e1 e2).stq k2 (fun q _ _ => hne _ (by unfold rid; omega))⟩
      rw [h0, h1, h2, h3]
      exact h.cx.stq k2 (hne _ (by unfold rid; omega))
    · simp only [hj, if_false] at hx ⊢
      exact (h.tz.st j x hx).stq k2 (fun q _ => hne _ (by unfold rid; omega))
  · obtain ⟨i1, i2, i3⟩ := h.tz.ids
    refine ⟨?_, fun j => ?_, by simp only [List.length_append, List.length_singleton]; omega⟩
    · rw [List.nodup_append]
      refine ⟨i1, by simp, fun a ha b hb he => ?_⟩
      simp at hb
      subst hb; subst he
      exact (i2 a).1 ha h.nw
    · simp only [List.mem_append, List.mem_singleton, i2]
      by_cases hj : j = id
      · simp [hj]
      · simp [hj]
  · exact (h.st.mono (fun r hr => by unfold inSt rid at hr; omega)).trans (s2.mono (fun r hr => by omega))
end
section
variable {w : World} {role : Nat → Nat} {g id : Nat} {T : TaS} {Y : TaY}
theorem MK.start (h : TZ w role g T Y) (hn : T.l id = none) : MK w role g T Y id (w.alloc (.cells [u64 id, u64 0, u64 0, u64 0, .bool false, .pointer none, .pointer none].toArray 79)) (upd role w.heap.size (rid id)) w.heap.size [u64 id, u64 0, u64 0, u64 0, .bool false, .pointer none, .pointer none] := by
  have hb := below_alloc w (.cells [u64 id, u64 0, u64 0, u64 0, .bool false, .pointer none, .pointer none].toArray 79)
  have s := Stq.fresh (R := inSt id) (r := rid id) (b := w.heap.size) hb h.top (Nat.le_refl _) (by simp) (by unfold inSt; omega)
  exact ⟨s, tz_in h hn s, ⟨CR.new w _ _, upd_same _ _ _⟩, hn⟩
theorem tz_g (h : TZ w role g T Y) : w.cell? ⟨g, 0, none⟩ = some (.bool T.srv) ∧ w.cell? ⟨g, 1, none⟩ = some (.int .u64 (T.ow.w : Int)) ∧ w.cell? ⟨g, 5, none⟩ = some (.int .u64 (T.pe.w : Int)) ∧ w.cell? ⟨g, 9, none⟩ = some (.map (some Y.ml)) :=
  ⟨h.row.cr.at_ 0, h.row.cr.at_ 1, h.row.cr.at_ 5, h.row.cr.at_ 9⟩
set_option maxHeartbeats 8000000 in
theorem make_tt (h : TZ w role g T Y) (hid : id < 18446744073709551616) (hn : T.l id = none) (hY : Y.n < maxLen) (ho : (od id == T.srv) = true) (hw : wy id = true) :
    Calls Try.prog 22 #[ptr g, .int .u64 (id : Int)] w fun e w' => ∃ role' sb, e = .returned (ptr sb) ∧ TZ w' role' g (makeS T id) { Y with n := Y.n + 1, sb := fun j => if j = id then sb else Y.sb j } ∧ Stq (fun r => r ≠ 0) w w' role role' := by
  have hN : stN T id = ⟨0, 0, 0, false, some (ou0 T.pe.w), none⟩ := by unfold stN; rw [ho, hw]; rfl
  unfold makeS
  rw [hN]
  have M1 := Lib.hid (MK.start h hn)
  have HLM := Lib.hid (fun (x : World) (ρ : Nat → Nat) (hz : TZ x ρ g T Y) => hz.lm.1)
  obtain ⟨o1, ho1⟩ : ∃ o1, od id = o1 := ⟨_, rfl⟩
  obtain ⟨sv, hsv⟩ : ∃ sv, T.srv = sv := ⟨_, rfl⟩
  obtain ⟨pw, hpw⟩ : ∃ pw, T.pe.w = pw := ⟨_, rfl⟩
  obtain ⟨ow, how⟩ : ∃ ow, T.ow.w = ow := ⟨_, rfl⟩
  have HG := Lib.hid (fun (x : World) (ρ : Nat → Nat) (hz : TZ x ρ g T Y) => by have hq := tz_g hz; rw [hsv, how, hpw] at hq; exact hq)
  have hof := fun (x : World) => of_any x id hid
  rw [ho1, hw] at hof
  rw [ho1, hsv] at ho
  try rw [hpw]
  try rw [how]
  have HOF := Lib.hid hof
  have HNP := Lib.hid (fun (x : World) => newPurse_any x pw)
  have HNT := Lib.hid (fun (x : World) => newTill_any x ow)
  obtain ⟨pl, hpl⟩ : ∃ pl, min pw 4611686018427387903 = pl := ⟨_, rfl⟩
  obtain ⟨wi, hwi⟩ : ∃ wi, min ow 4611686018427387903 = wi := ⟨_, rfl⟩
  try unfold ou0
  try unfold in0
  rw [hpl] at HNP
  rw [hwi] at HNT
  try rw [hpl]
  try rw [hwi]
  have HID := Lib.hid hid
  have HYN := Lib.hid hY
  obtain ⟨sb, hsb⟩ : ∃ sb, w.heap.size = sb := ⟨_, rfl⟩
  rw [hsb] at M1
  unfold u64 at M1
  obtain ⟨W1, hW1⟩ : ∃ x, w.alloc (.cells #[.int .u64 (id : Int), .int .u64 0, .int .u64 0, .int .u64 0, .bool false, .pointer none, .pointer none] 79) = x := ⟨_, rfl⟩
  have M1b := Lib.hid (show MK w role g T Y id W1 (upd role sb (rid id)) sb [.int .u64 (id : Int), .int .u64 0, .int .u64 0, .int .u64 0, .bool false, .pointer none, .pointer none] by rw [← hW1]; exact M1.out)
  clear h hid hn hY ho1 hsv hpw how hof hpl hwi hw M1 hN
  unfold ptr
  go_enter Try.func22, Try.ntmps22
  go_upto_region 3 with (first
    | (go_at_call 40; refine (HOF.out W1).mono ?_; rintro y w2 ⟨rfl, b2⟩; have M2 := Lib.hid (M1b.out.bel b2); clear b2; obtain ⟨kk, hkk⟩ : ∃ q, w2.heap.size = q := ⟨_, rfl⟩; have hrk := CR.new w2 66 [.bool false, .bool false]; rw [hkk] at hrk; have HRK := Lib.hid hrk; have HKK := Lib.hid hkk; clear hrk)
    | (refine L_storeRow (old := [.bool false, .bool false]) (new := [.bool o1, .bool true]) rfl 66 _ _ rfl rfl rfl HRK.out iKey rfl rfl (by simp [Value.oneCell']) ?_; intro w3 hz3 hg3; have HZ3 := Lib.hid hz3; have HG3 := Lib.hid hg3; clear hz3 hg3))
  have hb3 : Below w2.heap.size w2 w3 := (below_alloc w2 (.cells [.bool false, .bool false].toArray 66)).grown HG3.out (by simp) (fun j hj => by cases hj; rw [HKK.out]; exact Nat.le_refl _)
  have M3 := Lib.hid (M2.out.bel hb3)
  have k0 : w3.cell? ⟨kk, 0, none⟩ = some (.bool o1) := HZ3.out.at_ 0
  have g0 : w3.cell? ⟨g, 0, none⟩ = some (.bool sv) := (HG.out _ _ M3.out.tz).1
  clear hb3 hW1 M1b M2 HOF HG3 HRK
  go_quiet (fail)
  have bV := bel_drewN w3.heap.size w3 nq
  obtain ⟨V, hV⟩ : ∃ V, w3.drewN nq = V := ⟨_, rfl⟩
  rw [hV] at bV ⊢
  have MV := Lib.hid (M3.out.bel bV)
  have KV := Lib.hid (HZ3.out.bel bV)
  clear hV bV k0 g0 M3 HZ3
  have v1 : V.cell? ⟨kk, 1, none⟩ = some (.bool true) := KV.out.at_ 1
  have v5 : V.cell? ⟨g, 5, none⟩ = some (.int .u64 (pw : Int)) := (HG.out _ _ MV.out.tz).2.2.1
  go_upto_region 6 with (first
    | (go_at_call 19; refine (HNP.out V).mono ?_; rintro y w4 ⟨rfl, p4, b4⟩; have P4 := Lib.hid p4; have B4 := Lib.hid b4; have K4 := Lib.hid (KV.out.bel b4); have M4 := Lib.hid (MV.out.fresh b4 (b := V.heap.size) (r := rid id + 2) (Nat.le_refl _) p4.lt (by unfold inSt; omega)); obtain ⟨pu, hpu⟩ : ∃ q, V.heap.size = q := ⟨_, rfl⟩; clear p4 b4; unfold ptr)
    | (go_at_call 41; (with_reducible refine (spanNew_0 w4).mono ?_); rintro y w5 ⟨rfl, p5, b5⟩; have P5 := Lib.hid p5; have B5 := Lib.hid b5; have K5 := Lib.hid (K4.out.bel b5); have M5 := Lib.hid (M4.out.fresh b5 (b := w4.heap.size) (r := rid id + 4) (Nat.le_refl _) p5.lt (by unfold inSt; omega)); obtain ⟨td, htd⟩ : ∃ q, w4.heap.size = q := ⟨_, rfl⟩; clear p5 b5; unfold ptr)
    | (go_at_call 41; (with_reducible refine (spanNew_0 w5).mono ?_); rintro y w6 ⟨rfl, p6, b6⟩; have P6 := Lib.hid p6; have B6 := Lib.hid b6; have M6 := Lib.hid (M5.out.fresh b6 (b := w5.heap.size) (r := rid id + 6) (Nat.le_refl _) p6.lt (by unfold inSt; omega)); obtain ⟨ak, hak⟩ : ∃ q, w5.heap.size = q := ⟨_, rfl⟩; have p7 := CR.new w6 82 [.pointer (some ⟨V.heap.size, 0, none⟩), .slice none 0 0, .int .u64 0, .int .u64 0, .pointer (some ⟨w4.heap.size, 0, none⟩), .pointer (some ⟨w5.heap.size, 0, none⟩), .bool false, .int .i64 0, .int .i64 0, .int .u64 0]; have b7 := below_alloc w6 (.cells [.pointer (some ⟨V.heap.size, 0, none⟩), .slice none 0 0, .int .u64 0, .int .u64 0, .pointer (some ⟨w4.heap.size, 0, none⟩), .pointer (some ⟨w5.heap.size, 0, none⟩), .bool false, .int .i64 0, .int .i64 0, .int .u64 0].toArray 82); have m7 := M6.out.fresh b7 (b := w6.heap.size) (r := rid id + 1) (Nat.le_refl _) p7.lt (by unfold inSt; omega); have k7 := (K5.out.bel b6).bel b7; have o7 := ou_made (ρ := upd role sb (rid id)) (r := rid id) P4.out B4.out P5.out B5.out P6.out B6.out p7 b7; rw [hpu, htd, hak] at m7 k7 o7; obtain ⟨ob, hob⟩ : ∃ q, w6.heap.size = q := ⟨_, rfl⟩; rw [hob] at m7 o7; obtain ⟨w7, hw7⟩ : ∃ q, w6.alloc (.cells #[.pointer (some ⟨pu, 0, none⟩), .slice none 0 0, .int .u64 0, .int .u64 0, .pointer (some ⟨td, 0, none⟩), .pointer (some ⟨ak, 0, none⟩), .bool false, .int .i64 0, .int .i64 0, .int .u64 0] 82) = q := ⟨_, rfl⟩; rw [hw7] at m7 k7 o7; have s5 : w7.cell? ⟨sb, 5, none⟩ = some (.pointer none) := m7.cx.cr.at_ 5; have f5 := m7.cx.cr.fr 5; have M7 := Lib.hid m7; have K7 := Lib.hid k7; have O7 := Lib.hid o7; clear p6 b6 p7 b7 m7 k7 o7; unfold ptr))
  have hks : kk ≠ sb := fun he => by
    have h1 := K7.out
    rw [he] at h1
    exact absurd (CR.type h1 M7.out.cx.cr).1 (by decide)
  have m8 := M7.out.set 5 (.pointer (some ⟨ob, 0, none⟩))
  have o8 := O7.out.stq (kq_set M7.out.cx 5 (.pointer (some ⟨ob, 0, none⟩))) (fun j h1 h2 h3 => by omega)
  have k8 := K7.out.grown (grown_set w7 sb 5 (.pointer (some ⟨ob, 0, none⟩))) (fun he => by injection he with he; exact hks he)
  clear s5 f5 hw7 hob hak htd hpu P4 B4 P5 B5 P6 B6 M4 M5 M6 M7 K4 K5 K7 O7 v1 v5 MV KV
  obtain ⟨W8, hW8⟩ : ∃ x, w7.setCell ⟨sb, 5, none⟩ (.pointer (some ⟨ob, 0, none⟩)) = x := ⟨_, rfl⟩
  rw [hW8] at m8 o8 k8 ⊢
  have q0 : W8.cell? ⟨kk, 0, none⟩ = some (.bool o1) := k8.at_ 0
  have q1 : W8.cell? ⟨kk, 1, none⟩ = some (.bool true) := k8.at_ 1
  have g0 : W8.cell? ⟨g, 0, none⟩ = some (.bool sv) := (HG.out _ _ m8.tz).1
  have M8 := Lib.hid m8
  have O8 := Lib.hid o8
  have K8 := Lib.hid k8
  clear m8 o8 k8 hW8 hks
  go_quiet (fail)
  have bV := bel_drewN W8.heap.size W8 nq
  obtain ⟨V2, hV⟩ : ∃ V2, W8.drewN nq = V2 := ⟨_, rfl⟩
  rw [hV] at bV ⊢
  have MV2 := Lib.hid (M8.out.bel bV)
  have KV2 := Lib.hid (K8.out.bel bV)
  have OV2 := Lib.hid (O8.out.stq (Kq.bel bV (fun _ _ => rfl)) (fun _ _ _ h => h))
  have v1 : V2.cell? ⟨kk, 1, none⟩ = some (.bool true) := KV2.out.at_ 1
  clear hV bV q0 q1 g0 M8 O8 K8
  have d9 : V2.cell? ⟨g, 9, none⟩ = some (.map (some Y.ml)) := (HG.out _ _ MV2.out.tz).2.2.2
  go_wp2_with (refine L_lput rfl _ _ _ rfl (HLM.out _ _ MV2.out.tz) HYN.out id sb HID.out rfl rfl rfl ?_; intro w9 hl9 hg9; have HL9 := Lib.hid hl9; have HG9 := Lib.hid hg9; clear hl9 hg9)
  go_ret
  have hd := MK.done (ob := some ob) (ib := none) MV2.out (s := ⟨0, 0, 0, false, some ⟨pl, 0, [], 0, 0, [], [], false, 0, 0, 0⟩, none⟩) ⟨rfl, rfl, rfl, rfl⟩ (by simp) (by simp) (fun o b' e1 e2 => by cases e1; cases e2; exact OV2.out) (fun o b' e1 e2 => by cases e1) HL9.out HG9.out
  exact ⟨_, sb, rfl, hd.1, hd.2⟩
set_option maxHeartbeats 8000000 in
theorem make_tf (h : TZ w role g T Y) (hid : id < 18446744073709551616) (hn : T.l id = none) (hY : Y.n < maxLen) (ho : (od id == T.srv) = true) (hw : wy id = false) :
    Calls Try.prog 22 #[ptr g, .int .u64 (id : Int)] w fun e w' => ∃ role' sb, e = .returned (ptr sb) ∧ TZ w' role' g (makeS T id) { Y with n := Y.n + 1, sb := fun j => if j = id then sb else Y.sb j } ∧ Stq (fun r => r ≠ 0) w w' role role' := by
  have hN : stN T id = ⟨0, 0, 0, false, some (ou0 T.pe.w), some (in0 T.ow.w)⟩ := by unfold stN; rw [ho, hw]; rfl
  unfold makeS
  rw [hN]
  have M1 := Lib.hid (MK.start h hn)
  have HLM := Lib.hid (fun (x : World) (ρ : Nat → Nat) (hz : TZ x ρ g T Y) => hz.lm.1)
  obtain ⟨o1, ho1⟩ : ∃ o1, od id = o1 := ⟨_, rfl⟩
  obtain ⟨sv, hsv⟩ : ∃ sv, T.srv = sv := ⟨_, rfl⟩
  obtain ⟨pw, hpw⟩ : ∃ pw, T.pe.w = pw := ⟨_, rfl⟩
  obtain ⟨ow, how⟩ : ∃ ow, T.ow.w = ow := ⟨_, rfl⟩
  have HG := Lib.hid (fun (x : World) (ρ : Nat → Nat) (hz : TZ x ρ g T Y) => by have hq := tz_g hz; rw [hsv, how, hpw] at hq; exact hq)
  have hof := fun (x : World) => of_any x id hid
  rw [ho1, hw] at hof
  rw [ho1, hsv] at ho
  try rw [hpw]
  try rw [how]
  have HOF := Lib.hid hof
  have HNP := Lib.hid (fun (x : World) => newPurse_any x pw)
  have HNT := Lib.hid (fun (x : World) => newTill_any x ow)
  obtain ⟨pl, hpl⟩ : ∃ pl, min pw 4611686018427387903 = pl := ⟨_, rfl⟩
  obtain ⟨wi, hwi⟩ : ∃ wi, min ow 4611686018427387903 = wi := ⟨_, rfl⟩
  try unfold ou0
  try unfold in0
  rw [hpl] at HNP
  rw [hwi] at HNT
  try rw [hpl]
  try rw [hwi]
  have HID := Lib.hid hid
  have HYN := Lib.hid hY
  obtain ⟨sb, hsb⟩ : ∃ sb, w.heap.size = sb := ⟨_, rfl⟩
  rw [hsb] at M1
  unfold u64 at M1
  obtain ⟨W1, hW1⟩ : ∃ x, w.alloc (.cells #[.int .u64 (id : Int), .int .u64 0, .int .u64 0, .int .u64 0, .bool false, .pointer none, .pointer none] 79) = x := ⟨_, rfl⟩
  have M1b := Lib.hid (show MK w role g T Y id W1 (upd role sb (rid id)) sb [.int .u64 (id : Int), .int .u64 0, .int .u64 0, .int .u64 0, .bool false, .pointer none, .pointer none] by rw [← hW1]; exact M1.out)
  clear h hid hn hY ho1 hsv hpw how hof hpl hwi hw M1 hN
  unfold ptr
  go_enter Try.func22, Try.ntmps22
  go_upto_region 3 with (first
    | (go_at_call 40; refine (HOF.out W1).mono ?_; rintro y w2 ⟨rfl, b2⟩; have M2 := Lib.hid (M1b.out.bel b2); clear b2; obtain ⟨kk, hkk⟩ : ∃ q, w2.heap.size = q := ⟨_, rfl⟩; have hrk := CR.new w2 66 [.bool false, .bool false]; rw [hkk] at hrk; have HRK := Lib.hid hrk; have HKK := Lib.hid hkk; clear hrk)
    | (refine L_storeRow (old := [.bool false, .bool false]) (new := [.bool o1, .bool false]) rfl 66 _ _ rfl rfl rfl HRK.out iKey rfl rfl (by simp [Value.oneCell']) ?_; intro w3 hz3 hg3; have HZ3 := Lib.hid hz3; have HG3 := Lib.hid hg3; clear hz3 hg3))
  have hb3 : Below w2.heap.size w2 w3 := (below_alloc w2 (.cells [.bool false, .bool false].toArray 66)).grown HG3.out (by simp) (fun j hj => by cases hj; rw [HKK.out]; exact Nat.le_refl _)
  have M3 := Lib.hid (M2.out.bel hb3)
  have k0 : w3.cell? ⟨kk, 0, none⟩ = some (.bool o1) := HZ3.out.at_ 0
  have g0 : w3.cell? ⟨g, 0, none⟩ = some (.bool sv) := (HG.out _ _ M3.out.tz).1
  clear hb3 hW1 M1b M2 HOF HG3 HRK
  go_quiet (fail)
  have bV := bel_drewN w3.heap.size w3 nq
  obtain ⟨V, hV⟩ : ∃ V, w3.drewN nq = V := ⟨_, rfl⟩
  rw [hV] at bV ⊢
  have MV := Lib.hid (M3.out.bel bV)
  have KV := Lib.hid (HZ3.out.bel bV)
  clear hV bV k0 g0 M3 HZ3
  have v1 : V.cell? ⟨kk, 1, none⟩ = some (.bool false) := KV.out.at_ 1
  have v5 : V.cell? ⟨g, 5, none⟩ = some (.int .u64 (pw : Int)) := (HG.out _ _ MV.out.tz).2.2.1
  go_upto_region 6 with (first
    | (go_at_call 19; refine (HNP.out V).mono ?_; rintro y w4 ⟨rfl, p4, b4⟩; have P4 := Lib.hid p4; have B4 := Lib.hid b4; have K4 := Lib.hid (KV.out.bel b4); have M4 := Lib.hid (MV.out.fresh b4 (b := V.heap.size) (r := rid id + 2) (Nat.le_refl _) p4.lt (by unfold inSt; omega)); obtain ⟨pu, hpu⟩ : ∃ q, V.heap.size = q := ⟨_, rfl⟩; clear p4 b4; unfold ptr)
    | (go_at_call 41; (with_reducible refine (spanNew_0 w4).mono ?_); rintro y w5 ⟨rfl, p5, b5⟩; have P5 := Lib.hid p5; have B5 := Lib.hid b5; have K5 := Lib.hid (K4.out.bel b5); have M5 := Lib.hid (M4.out.fresh b5 (b := w4.heap.size) (r := rid id + 4) (Nat.le_refl _) p5.lt (by unfold inSt; omega)); obtain ⟨td, htd⟩ : ∃ q, w4.heap.size = q := ⟨_, rfl⟩; clear p5 b5; unfold ptr)
    | (go_at_call 41; (with_reducible refine (spanNew_0 w5).mono ?_); rintro y w6 ⟨rfl, p6, b6⟩; have P6 := Lib.hid p6; have B6 := Lib.hid b6; have M6 := Lib.hid (M5.out.fresh b6 (b := w5.heap.size) (r := rid id + 6) (Nat.le_refl _) p6.lt (by unfold inSt; omega)); obtain ⟨ak, hak⟩ : ∃ q, w5.heap.size = q := ⟨_, rfl⟩; have p7 := CR.new w6 82 [.pointer (some ⟨V.heap.size, 0, none⟩), .slice none 0 0, .int .u64 0, .int .u64 0, .pointer (some ⟨w4.heap.size, 0, none⟩), .pointer (some ⟨w5.heap.size, 0, none⟩), .bool false, .int .i64 0, .int .i64 0, .int .u64 0]; have b7 := below_alloc w6 (.cells [.pointer (some ⟨V.heap.size, 0, none⟩), .slice none 0 0, .int .u64 0, .int .u64 0, .pointer (some ⟨w4.heap.size, 0, none⟩), .pointer (some ⟨w5.heap.size, 0, none⟩), .bool false, .int .i64 0, .int .i64 0, .int .u64 0].toArray 82); have m7 := M6.out.fresh b7 (b := w6.heap.size) (r := rid id + 1) (Nat.le_refl _) p7.lt (by unfold inSt; omega); have k7 := (K5.out.bel b6).bel b7; have o7 := ou_made (ρ := upd role sb (rid id)) (r := rid id) P4.out B4.out P5.out B5.out P6.out B6.out p7 b7; rw [hpu, htd, hak] at m7 k7 o7; obtain ⟨ob, hob⟩ : ∃ q, w6.heap.size = q := ⟨_, rfl⟩; rw [hob] at m7 o7; obtain ⟨w7, hw7⟩ : ∃ q, w6.alloc (.cells #[.pointer (some ⟨pu, 0, none⟩), .slice none 0 0, .int .u64 0, .int .u64 0, .pointer (some ⟨td, 0, none⟩), .pointer (some ⟨ak, 0, none⟩), .bool false, .int .i64 0, .int .i64 0, .int .u64 0] 82) = q := ⟨_, rfl⟩; rw [hw7] at m7 k7 o7; have s5 : w7.cell? ⟨sb, 5, none⟩ = some (.pointer none) := m7.cx.cr.at_ 5; have f5 := m7.cx.cr.fr 5; have M7 := Lib.hid m7; have K7 := Lib.hid k7; have O7 := Lib.hid o7; clear p6 b6 p7 b7 m7 k7 o7; unfold ptr))
  have hks : kk ≠ sb := fun he => by
    have h1 := K7.out
    rw [he] at h1
    exact absurd (CR.type h1 M7.out.cx.cr).1 (by decide)
  have m8 := M7.out.set 5 (.pointer (some ⟨ob, 0, none⟩))
  have o8 := O7.out.stq (kq_set M7.out.cx 5 (.pointer (some ⟨ob, 0, none⟩))) (fun j h1 h2 h3 => by omega)
  have k8 := K7.out.grown (grown_set w7 sb 5 (.pointer (some ⟨ob, 0, none⟩))) (fun he => by injection he with he; exact hks he)
  clear s5 f5 hw7 hob hak htd hpu P4 B4 P5 B5 P6 B6 M4 M5 M6 M7 K4 K5 K7 O7 v1 v5 MV KV
  obtain ⟨W8, hW8⟩ : ∃ x, w7.setCell ⟨sb, 5, none⟩ (.pointer (some ⟨ob, 0, none⟩)) = x := ⟨_, rfl⟩
  rw [hW8] at m8 o8 k8 ⊢
  have q0 : W8.cell? ⟨kk, 0, none⟩ = some (.bool o1) := k8.at_ 0
  have q1 : W8.cell? ⟨kk, 1, none⟩ = some (.bool false) := k8.at_ 1
  have g0 : W8.cell? ⟨g, 0, none⟩ = some (.bool sv) := (HG.out _ _ m8.tz).1
  have M8 := Lib.hid m8
  have O8 := Lib.hid o8
  have K8 := Lib.hid k8
  clear m8 o8 k8 hW8 hks
  go_quiet (fail)
  have bV := bel_drewN W8.heap.size W8 nq
  obtain ⟨V2, hV⟩ : ∃ V2, W8.drewN nq = V2 := ⟨_, rfl⟩
  rw [hV] at bV ⊢
  have MV2 := Lib.hid (M8.out.bel bV)
  have KV2 := Lib.hid (K8.out.bel bV)
  have OV2 := Lib.hid (O8.out.stq (Kq.bel bV (fun _ _ => rfl)) (fun _ _ _ h => h))
  have v1 : V2.cell? ⟨kk, 1, none⟩ = some (.bool false) := KV2.out.at_ 1
  clear hV bV q0 q1 g0 M8 O8 K8
  obtain ⟨ρ2, MV3, OV3⟩ : ∃ ρ, Hid (MK w role g T Y id V2 ρ sb [.int .u64 (id : Int), .int .u64 0, .int .u64 0, .int .u64 0, .bool false, .pointer (some ⟨ob, 0, none⟩), .pointer none]) ∧ Hid (OuZ V2 ρ (rid id) ob ⟨pl, 0, [], 0, 0, [], [], false, 0, 0, 0⟩) := ⟨_, MV2, OV2⟩
  clear MV2 OV2
  have u1 : V2.cell? ⟨g, 1, none⟩ = some (.int .u64 (ow : Int)) := (HG.out _ _ MV3.out.tz).2.1
  go_upto_region 9 with (first
    | (go_at_call 20; refine (HNT.out V2).mono ?_; rintro y x4 ⟨rfl, p4, b4⟩; have P4 := Lib.hid p4; have B4 := Lib.hid b4; have M4 := Lib.hid (MV3.out.fresh b4 (b := V2.heap.size) (r := rid id + 9) (Nat.le_refl _) p4.lt (by unfold inSt; omega)); have O4 := Lib.hid (OV3.out.stq (kq_fresh (r := rid id + 9) b4 (Nat.le_refl _)) (fun _ _ _ h => h)); obtain ⟨ti, hti⟩ : ∃ q, V2.heap.size = q := ⟨_, rfl⟩; clear p4 b4; unfold ptr)
    | (go_at_call 42; (with_reducible refine (quiltNew_any x4).mono ?_); rintro y x5 ⟨rfl, p5, b5⟩; have m5 := M4.out.fresh b5 (b := x4.heap.size) (r := rid id + 10) (Nat.le_refl _) p5.lt (by unfold inSt; omega); have o5 := O4.out.stq (kq_fresh (r := rid id + 10) b5 (Nat.le_refl _)) (fun _ _ _ h => h); obtain ⟨qb, hqb⟩ : ∃ q, x4.heap.size = q := ⟨_, rfl⟩; have p6 := CR.new x5 89 [.pointer (some ⟨V2.heap.size, 0, none⟩), .pointer (some ⟨x4.heap.size, 0, none⟩), .bool false, .int .u64 0, .bool false, .bool false, .int .i64 0, .int .u64 0, .int .i64 0]; have b6 := below_alloc x5 (.cells [.pointer (some ⟨V2.heap.size, 0, none⟩), .pointer (some ⟨x4.heap.size, 0, none⟩), .bool false, .int .u64 0, .bool false, .bool false, .int .i64 0, .int .u64 0, .int .i64 0].toArray 89); have m6 := m5.fresh b6 (b := x5.heap.size) (r := rid id + 8) (Nat.le_refl _) p6.lt (by unfold inSt; omega); have o6 := o5.stq (kq_fresh (r := rid id + 8) b6 (Nat.le_refl _)) (fun _ _ _ h => h); have i6 := in_made (ρ := ρ2) (r := rid id) P4.out B4.out p5 b5 p6 b6; rw [hti, hqb] at m6 i6 o6; obtain ⟨ib, hib⟩ : ∃ q, x5.heap.size = q := ⟨_, rfl⟩; rw [hib] at m6 i6 o6; obtain ⟨x6, hx6⟩ : ∃ q, x5.alloc (.cells #[.pointer (some ⟨ti, 0, none⟩), .pointer (some ⟨qb, 0, none⟩), .bool false, .int .u64 0, .bool false, .bool false, .int .i64 0, .int .u64 0, .int .i64 0] 89) = q := ⟨_, rfl⟩; rw [hx6] at m6 i6 o6; have s6 : x6.cell? ⟨sb, 6, none⟩ = some (.pointer none) := m6.cx.cr.at_ 6; have f6 := m6.cx.cr.fr 6; have M6 := Lib.hid m6; have I6 := Lib.hid i6; have O6 := Lib.hid o6; clear p5 b5 p6 b6 m5 m6 i6 o5 o6; unfold ptr))
  have M9 := Lib.hid (M6.out.set 6 (.pointer (some ⟨ib, 0, none⟩)))
  have I9 := Lib.hid (I6.out.stq (kq_set M6.out.cx 6 (.pointer (some ⟨ib, 0, none⟩))) (fun j h1 h2 h3 => by omega))
  have O9 := Lib.hid (O6.out.stq (kq_set M6.out.cx 6 (.pointer (some ⟨ib, 0, none⟩))) (fun j h1 h2 h3 => by omega))
  clear s6 f6 hx6 hib hqb hti P4 B4 M4 M6 I6 u1 v1 MV3 KV2 O4 O6 OV3
  obtain ⟨W9, hW9⟩ : ∃ x, x6.setCell ⟨sb, 6, none⟩ (.pointer (some ⟨ib, 0, none⟩)) = x := ⟨_, rfl⟩
  rw [hW9] at M9 I9 O9 ⊢
  clear hW9
  have d9 : W9.cell? ⟨g, 9, none⟩ = some (.map (some Y.ml)) := (HG.out _ _ M9.out.tz).2.2.2
  go_wp2_with (refine L_lput rfl _ _ _ rfl (HLM.out _ _ M9.out.tz) HYN.out id sb HID.out rfl rfl rfl ?_; intro w9 hl9 hg9; have HL9 := Lib.hid hl9; have HG9 := Lib.hid hg9; clear hl9 hg9)
  go_ret
  have hd := MK.done (ob := some ob) (ib := some ib) M9.out (s := ⟨0, 0, 0, false, some ⟨pl, 0, [], 0, 0, [], [], false, 0, 0, 0⟩, some ⟨⟨wi, wi, 0, 0⟩, ⟨[], 0, 0, 0, false⟩, false, 0, false, false, 0, 0, 0⟩⟩) ⟨rfl, rfl, rfl, rfl⟩ (by simp) (by simp) (fun o b' e1 e2 => by cases e1; cases e2; exact O9.out) (fun i b' e1 e2 => by cases e1; cases e2; exact I9.out) HL9.out HG9.out
  exact ⟨_, sb, rfl, hd.1, hd.2⟩
set_option maxHeartbeats 8000000 in
theorem make_ff (h : TZ w role g T Y) (hid : id < 18446744073709551616) (hn : T.l id = none) (hY : Y.n < maxLen) (ho : (od id == T.srv) = false) (hw : wy id = false) :
    Calls Try.prog 22 #[ptr g, .int .u64 (id : Int)] w fun e w' => ∃ role' sb, e = .returned (ptr sb) ∧ TZ w' role' g (makeS T id) { Y with n := Y.n + 1, sb := fun j => if j = id then sb else Y.sb j } ∧ Stq (fun r => r ≠ 0) w w' role role' := by
  have hN : stN T id = ⟨0, 0, 0, false, some (ou0 T.pe.w), some (in0 T.ow.w)⟩ := by unfold stN; rw [ho, hw]; rfl
  unfold makeS
  rw [hN]
  have M1 := Lib.hid (MK.start h hn)
  have HLM := Lib.hid (fun (x : World) (ρ : Nat → Nat) (hz : TZ x ρ g T Y) => hz.lm.1)
  obtain ⟨o1, ho1⟩ : ∃ o1, od id = o1 := ⟨_, rfl⟩
  obtain ⟨sv, hsv⟩ : ∃ sv, T.srv = sv := ⟨_, rfl⟩
  obtain ⟨pw, hpw⟩ : ∃ pw, T.pe.w = pw := ⟨_, rfl⟩
  obtain ⟨ow, how⟩ : ∃ ow, T.ow.w = ow := ⟨_, rfl⟩
  have HG := Lib.hid (fun (x : World) (ρ : Nat → Nat) (hz : TZ x ρ g T Y) => by have hq := tz_g hz; rw [hsv, how, hpw] at hq; exact hq)
  have hof := fun (x : World) => of_any x id hid
  rw [ho1, hw] at hof
  rw [ho1, hsv] at ho
  try rw [hpw]
  try rw [how]
  have HOF := Lib.hid hof
  have HNP := Lib.hid (fun (x : World) => newPurse_any x pw)
  have HNT := Lib.hid (fun (x : World) => newTill_any x ow)
  obtain ⟨pl, hpl⟩ : ∃ pl, min pw 4611686018427387903 = pl := ⟨_, rfl⟩
  obtain ⟨wi, hwi⟩ : ∃ wi, min ow 4611686018427387903 = wi := ⟨_, rfl⟩
  try unfold ou0
  try unfold in0
  rw [hpl] at HNP
  rw [hwi] at HNT
  try rw [hpl]
  try rw [hwi]
  have HID := Lib.hid hid
  have HYN := Lib.hid hY
  obtain ⟨sb, hsb⟩ : ∃ sb, w.heap.size = sb := ⟨_, rfl⟩
  rw [hsb] at M1
  unfold u64 at M1
  obtain ⟨W1, hW1⟩ : ∃ x, w.alloc (.cells #[.int .u64 (id : Int), .int .u64 0, .int .u64 0, .int .u64 0, .bool false, .pointer none, .pointer none] 79) = x := ⟨_, rfl⟩
  have M1b := Lib.hid (show MK w role g T Y id W1 (upd role sb (rid id)) sb [.int .u64 (id : Int), .int .u64 0, .int .u64 0, .int .u64 0, .bool false, .pointer none, .pointer none] by rw [← hW1]; exact M1.out)
  clear h hid hn hY ho1 hsv hpw how hof hpl hwi hw M1 hN
  unfold ptr
  go_enter Try.func22, Try.ntmps22
  go_upto_region 3 with (first
    | (go_at_call 40; refine (HOF.out W1).mono ?_; rintro y w2 ⟨rfl, b2⟩; have M2 := Lib.hid (M1b.out.bel b2); clear b2; obtain ⟨kk, hkk⟩ : ∃ q, w2.heap.size = q := ⟨_, rfl⟩; have hrk := CR.new w2 66 [.bool false, .bool false]; rw [hkk] at hrk; have HRK := Lib.hid hrk; have HKK := Lib.hid hkk; clear hrk)
    | (refine L_storeRow (old := [.bool false, .bool false]) (new := [.bool o1, .bool false]) rfl 66 _ _ rfl rfl rfl HRK.out iKey rfl rfl (by simp [Value.oneCell']) ?_; intro w3 hz3 hg3; have HZ3 := Lib.hid hz3; have HG3 := Lib.hid hg3; clear hz3 hg3))
  have hb3 : Below w2.heap.size w2 w3 := (below_alloc w2 (.cells [.bool false, .bool false].toArray 66)).grown HG3.out (by simp) (fun j hj => by cases hj; rw [HKK.out]; exact Nat.le_refl _)
  have M3 := Lib.hid (M2.out.bel hb3)
  have k0 : w3.cell? ⟨kk, 0, none⟩ = some (.bool o1) := HZ3.out.at_ 0
  have g0 : w3.cell? ⟨g, 0, none⟩ = some (.bool sv) := (HG.out _ _ M3.out.tz).1
  clear hb3 hW1 M1b M2 HOF HG3 HRK
  go_quiet (fail)
  have bV := bel_drewN w3.heap.size w3 nq
  obtain ⟨V, hV⟩ : ∃ V, w3.drewN nq = V := ⟨_, rfl⟩
  rw [hV] at bV ⊢
  have MV := Lib.hid (M3.out.bel bV)
  have KV := Lib.hid (HZ3.out.bel bV)
  clear hV bV k0 g0 M3 HZ3
  have v1 : V.cell? ⟨kk, 1, none⟩ = some (.bool false) := KV.out.at_ 1
  have v5 : V.cell? ⟨g, 5, none⟩ = some (.int .u64 (pw : Int)) := (HG.out _ _ MV.out.tz).2.2.1
  go_upto_region 6 with (first
    | (go_at_call 19; refine (HNP.out V).mono ?_; rintro y w4 ⟨rfl, p4, b4⟩; have P4 := Lib.hid p4; have B4 := Lib.hid b4; have K4 := Lib.hid (KV.out.bel b4); have M4 := Lib.hid (MV.out.fresh b4 (b := V.heap.size) (r := rid id + 2) (Nat.le_refl _) p4.lt (by unfold inSt; omega)); obtain ⟨pu, hpu⟩ : ∃ q, V.heap.size = q := ⟨_, rfl⟩; clear p4 b4; unfold ptr)
    | (go_at_call 41; (with_reducible refine (spanNew_0 w4).mono ?_); rintro y w5 ⟨rfl, p5, b5⟩; have P5 := Lib.hid p5; have B5 := Lib.hid b5; have K5 := Lib.hid (K4.out.bel b5); have M5 := Lib.hid (M4.out.fresh b5 (b := w4.heap.size) (r := rid id + 4) (Nat.le_refl _) p5.lt (by unfold inSt; omega)); obtain ⟨td, htd⟩ : ∃ q, w4.heap.size = q := ⟨_, rfl⟩; clear p5 b5; unfold ptr)
    | (go_at_call 41; (with_reducible refine (spanNew_0 w5).mono ?_); rintro y w6 ⟨rfl, p6, b6⟩; have P6 := Lib.hid p6; have B6 := Lib.hid b6; have M6 := Lib.hid (M5.out.fresh b6 (b := w5.heap.size) (r := rid id + 6) (Nat.le_refl _) p6.lt (by unfold inSt; omega)); obtain ⟨ak, hak⟩ : ∃ q, w5.heap.size = q := ⟨_, rfl⟩; have p7 := CR.new w6 82 [.pointer (some ⟨V.heap.size, 0, none⟩), .slice none 0 0, .int .u64 0, .int .u64 0, .pointer (some ⟨w4.heap.size, 0, none⟩), .pointer (some ⟨w5.heap.size, 0, none⟩), .bool false, .int .i64 0, .int .i64 0, .int .u64 0]; have b7 := below_alloc w6 (.cells [.pointer (some ⟨V.heap.size, 0, none⟩), .slice none 0 0, .int .u64 0, .int .u64 0, .pointer (some ⟨w4.heap.size, 0, none⟩), .pointer (some ⟨w5.heap.size, 0, none⟩), .bool false, .int .i64 0, .int .i64 0, .int .u64 0].toArray 82); have m7 := M6.out.fresh b7 (b := w6.heap.size) (r := rid id + 1) (Nat.le_refl _) p7.lt (by unfold inSt; omega); have k7 := (K5.out.bel b6).bel b7; have o7 := ou_made (ρ := upd role sb (rid id)) (r := rid id) P4.out B4.out P5.out B5.out P6.out B6.out p7 b7; rw [hpu, htd, hak] at m7 k7 o7; obtain ⟨ob, hob⟩ : ∃ q, w6.heap.size = q := ⟨_, rfl⟩; rw [hob] at m7 o7; obtain ⟨w7, hw7⟩ : ∃ q, w6.alloc (.cells #[.pointer (some ⟨pu, 0, none⟩), .slice none 0 0, .int .u64 0, .int .u64 0, .pointer (some ⟨td, 0, none⟩), .pointer (some ⟨ak, 0, none⟩), .bool false, .int .i64 0, .int .i64 0, .int .u64 0] 82) = q := ⟨_, rfl⟩; rw [hw7] at m7 k7 o7; have s5 : w7.cell? ⟨sb, 5, none⟩ = some (.pointer none) := m7.cx.cr.at_ 5; have f5 := m7.cx.cr.fr 5; have M7 := Lib.hid m7; have K7 := Lib.hid k7; have O7 := Lib.hid o7; clear p6 b6 p7 b7 m7 k7 o7; unfold ptr))
  have hks : kk ≠ sb := fun he => by
    have h1 := K7.out
    rw [he] at h1
    exact absurd (CR.type h1 M7.out.cx.cr).1 (by decide)
  have m8 := M7.out.set 5 (.pointer (some ⟨ob, 0, none⟩))
  have o8 := O7.out.stq (kq_set M7.out.cx 5 (.pointer (some ⟨ob, 0, none⟩))) (fun j h1 h2 h3 => by omega)
  have k8 := K7.out.grown (grown_set w7 sb 5 (.pointer (some ⟨ob, 0, none⟩))) (fun he => by injection he with he; exact hks he)
  clear s5 f5 hw7 hob hak htd hpu P4 B4 P5 B5 P6 B6 M4 M5 M6 M7 K4 K5 K7 O7 v1 v5 MV KV
  obtain ⟨W8, hW8⟩ : ∃ x, w7.setCell ⟨sb, 5, none⟩ (.pointer (some ⟨ob, 0, none⟩)) = x := ⟨_, rfl⟩
  rw [hW8] at m8 o8 k8 ⊢
  have q0 : W8.cell? ⟨kk, 0, none⟩ = some (.bool o1) := k8.at_ 0
  have q1 : W8.cell? ⟨kk, 1, none⟩ = some (.bool false) := k8.at_ 1
  have g0 : W8.cell? ⟨g, 0, none⟩ = some (.bool sv) := (HG.out _ _ m8.tz).1
  have M8 := Lib.hid m8
  have O8 := Lib.hid o8
  have K8 := Lib.hid k8
  clear m8 o8 k8 hW8 hks
  go_quiet (fail)
  have bV := bel_drewN W8.heap.size W8 nq
  obtain ⟨V2, hV⟩ : ∃ V2, W8.drewN nq = V2 := ⟨_, rfl⟩
  rw [hV] at bV ⊢
  have MV2 := Lib.hid (M8.out.bel bV)
  have KV2 := Lib.hid (K8.out.bel bV)
  have OV2 := Lib.hid (O8.out.stq (Kq.bel bV (fun _ _ => rfl)) (fun _ _ _ h => h))
  have v1 : V2.cell? ⟨kk, 1, none⟩ = some (.bool false) := KV2.out.at_ 1
  clear hV bV q0 q1 g0 M8 O8 K8
  obtain ⟨ρ2, MV3, OV3⟩ : ∃ ρ, Hid (MK w role g T Y id V2 ρ sb [.int .u64 (id : Int), .int .u64 0, .int .u64 0, .int .u64 0, .bool false, .pointer (some ⟨ob, 0, none⟩), .pointer none]) ∧ Hid (OuZ V2 ρ (rid id) ob ⟨pl, 0, [], 0, 0, [], [], false, 0, 0, 0⟩) := ⟨_, MV2, OV2⟩
  clear MV2 OV2
  have u1 : V2.cell? ⟨g, 1, none⟩ = some (.int .u64 (ow : Int)) := (HG.out _ _ MV3.out.tz).2.1
  go_upto_region 9 with (first
    | (go_at_call 20; refine (HNT.out V2).mono ?_; rintro y x4 ⟨rfl, p4, b4⟩; have P4 := Lib.hid p4; have B4 := Lib.hid b4; have M4 := Lib.hid (MV3.out.fresh b4 (b := V2.heap.size) (r := rid id + 9) (Nat.le_refl _) p4.lt (by unfold inSt; omega)); have O4 := Lib.hid (OV3.out.stq (kq_fresh (r := rid id + 9) b4 (Nat.le_refl _)) (fun _ _ _ h => h)); obtain ⟨ti, hti⟩ : ∃ q, V2.heap.size = q := ⟨_, rfl⟩; clear p4 b4; unfold ptr)
    | (go_at_call 42; (with_reducible refine (quiltNew_any x4).mono ?_); rintro y x5 ⟨rfl, p5, b5⟩; have m5 := M4.out.fresh b5 (b := x4.heap.size) (r := rid id + 10) (Nat.le_refl _) p5.lt (by unfold inSt; omega); have o5 := O4.out.stq (kq_fresh (r := rid id + 10) b5 (Nat.le_refl _)) (fun _ _ _ h => h); obtain ⟨qb, hqb⟩ : ∃ q, x4.heap.size = q := ⟨_, rfl⟩; have p6 := CR.new x5 89 [.pointer (some ⟨V2.heap.size, 0, none⟩), .pointer (some ⟨x4.heap.size, 0, none⟩), .bool false, .int .u64 0, .bool false, .bool false, .int .i64 0, .int .u64 0, .int .i64 0]; have b6 := below_alloc x5 (.cells [.pointer (some ⟨V2.heap.size, 0, none⟩), .pointer (some ⟨x4.heap.size, 0, none⟩), .bool false, .int .u64 0, .bool false, .bool false, .int .i64 0, .int .u64 0, .int .i64 0].toArray 89); have m6 := m5.fresh b6 (b := x5.heap.size) (r := rid id + 8) (Nat.le_refl _) p6.lt (by unfold inSt; omega); have o6 := o5.stq (kq_fresh (r := rid id + 8) b6 (Nat.le_refl _)) (fun _ _ _ h => h); have i6 := in_made (ρ := ρ2) (r := rid id) P4.out B4.out p5 b5 p6 b6; rw [hti, hqb] at m6 i6 o6; obtain ⟨ib, hib⟩ : ∃ q, x5.heap.size = q := ⟨_, rfl⟩; rw [hib] at m6 i6 o6; obtain ⟨x6, hx6⟩ : ∃ q, x5.alloc (.cells #[.pointer (some ⟨ti, 0, none⟩), .pointer (some ⟨qb, 0, none⟩), .bool false, .int .u64 0, .bool false, .bool false, .int .i64 0, .int .u64 0, .int .i64 0] 89) = q := ⟨_, rfl⟩; rw [hx6] at m6 i6 o6; have s6 : x6.cell? ⟨sb, 6, none⟩ = some (.pointer none) := m6.cx.cr.at_ 6; have f6 := m6.cx.cr.fr 6; have M6 := Lib.hid m6; have I6 := Lib.hid i6; have O6 := Lib.hid o6; clear p5 b5 p6 b6 m5 m6 i6 o5 o6; unfold ptr))
  have M9 := Lib.hid (M6.out.set 6 (.pointer (some ⟨ib, 0, none⟩)))
  have I9 := Lib.hid (I6.out.stq (kq_set M6.out.cx 6 (.pointer (some ⟨ib, 0, none⟩))) (fun j h1 h2 h3 => by omega))
  have O9 := Lib.hid (O6.out.stq (kq_set M6.out.cx 6 (.pointer (some ⟨ib, 0, none⟩))) (fun j h1 h2 h3 => by omega))
  clear s6 f6 hx6 hib hqb hti P4 B4 M4 M6 I6 u1 v1 MV3 KV2 O4 O6 OV3
  obtain ⟨W9, hW9⟩ : ∃ x, x6.setCell ⟨sb, 6, none⟩ (.pointer (some ⟨ib, 0, none⟩)) = x := ⟨_, rfl⟩
  rw [hW9] at M9 I9 O9 ⊢
  clear hW9
  have d9 : W9.cell? ⟨g, 9, none⟩ = some (.map (some Y.ml)) := (HG.out _ _ M9.out.tz).2.2.2
  go_wp2_with (refine L_lput rfl _ _ _ rfl (HLM.out _ _ M9.out.tz) HYN.out id sb HID.out rfl rfl rfl ?_; intro w9 hl9 hg9; have HL9 := Lib.hid hl9; have HG9 := Lib.hid hg9; clear hl9 hg9)
  go_ret
  have hd := MK.done (ob := some ob) (ib := some ib) M9.out (s := ⟨0, 0, 0, false, some ⟨pl, 0, [], 0, 0, [], [], false, 0, 0, 0⟩, some ⟨⟨wi, wi, 0, 0⟩, ⟨[], 0, 0, 0, false⟩, false, 0, false, false, 0, 0, 0⟩⟩) ⟨rfl, rfl, rfl, rfl⟩ (by simp) (by simp) (fun o b' e1 e2 => by cases e1; cases e2; exact O9.out) (fun i b' e1 e2 => by cases e1; cases e2; exact I9.out) HL9.out HG9.out
  exact ⟨_, sb, rfl, hd.1, hd.2⟩
set_option maxHeartbeats 8000000 in
theorem make_ft (h : TZ w role g T Y) (hid : id < 18446744073709551616) (hn : T.l id = none) (hY : Y.n < maxLen) (ho : (od id == T.srv) = false) (hw : wy id = true) :
    Calls Try.prog 22 #[ptr g, .int .u64 (id : Int)] w fun e w' => ∃ role' sb, e = .returned (ptr sb) ∧ TZ w' role' g (makeS T id) { Y with n := Y.n + 1, sb := fun j => if j = id then sb else Y.sb j } ∧ Stq (fun r => r ≠ 0) w w' role role' := by
  have hN : stN T id = ⟨0, 0, 0, false, none, some (in0 T.ow.w)⟩ := by unfold stN; rw [ho, hw]; rfl
  unfold makeS
  rw [hN]
  have M1 := Lib.hid (MK.start h hn)
  have HLM := Lib.hid (fun (x : World) (ρ : Nat → Nat) (hz : TZ x ρ g T Y) => hz.lm.1)
  obtain ⟨o1, ho1⟩ : ∃ o1, od id = o1 := ⟨_, rfl⟩
  obtain ⟨sv, hsv⟩ : ∃ sv, T.srv = sv := ⟨_, rfl⟩
  obtain ⟨pw, hpw⟩ : ∃ pw, T.pe.w = pw := ⟨_, rfl⟩
  obtain ⟨ow, how⟩ : ∃ ow, T.ow.w = ow := ⟨_, rfl⟩
  have HG := Lib.hid (fun (x : World) (ρ : Nat → Nat) (hz : TZ x ρ g T Y) => by have hq := tz_g hz; rw [hsv, how, hpw] at hq; exact hq)
  have hof := fun (x : World) => of_any x id hid
  rw [ho1, hw] at hof
  rw [ho1, hsv] at ho
  try rw [hpw]
  try rw [how]
  have HOF := Lib.hid hof
  have HNP := Lib.hid (fun (x : World) => newPurse_any x pw)
  have HNT := Lib.hid (fun (x : World) => newTill_any x ow)
  obtain ⟨pl, hpl⟩ : ∃ pl, min pw 4611686018427387903 = pl := ⟨_, rfl⟩
  obtain ⟨wi, hwi⟩ : ∃ wi, min ow 4611686018427387903 = wi := ⟨_, rfl⟩
  try unfold ou0
  try unfold in0
  rw [hpl] at HNP
  rw [hwi] at HNT
  try rw [hpl]
  try rw [hwi]
  have HID := Lib.hid hid
  have HYN := Lib.hid hY
  obtain ⟨sb, hsb⟩ : ∃ sb, w.heap.size = sb := ⟨_, rfl⟩
  rw [hsb] at M1
  unfold u64 at M1
  obtain ⟨W1, hW1⟩ : ∃ x, w.alloc (.cells #[.int .u64 (id : Int), .int .u64 0, .int .u64 0, .int .u64 0, .bool false, .pointer none, .pointer none] 79) = x := ⟨_, rfl⟩
  have M1b := Lib.hid (show MK w role g T Y id W1 (upd role sb (rid id)) sb [.int .u64 (id : Int), .int .u64 0, .int .u64 0, .int .u64 0, .bool false, .pointer none, .pointer none] by rw [← hW1]; exact M1.out)
  clear h hid hn hY ho1 hsv hpw how hof hpl hwi hw M1 hN
  unfold ptr
  go_enter Try.func22, Try.ntmps22
  go_upto_region 3 with (first
    | (go_at_call 40; refine (HOF.out W1).mono ?_; rintro y w2 ⟨rfl, b2⟩; have M2 := Lib.hid (M1b.out.bel b2); clear b2; obtain ⟨kk, hkk⟩ : ∃ q, w2.heap.size = q := ⟨_, rfl⟩; have hrk := CR.new w2 66 [.bool false, .bool false]; rw [hkk] at hrk; have HRK := Lib.hid hrk; have HKK := Lib.hid hkk; clear hrk)
    | (refine L_storeRow (old := [.bool false, .bool false]) (new := [.bool o1, .bool true]) rfl 66 _ _ rfl rfl rfl HRK.out iKey rfl rfl (by simp [Value.oneCell']) ?_; intro w3 hz3 hg3; have HZ3 := Lib.hid hz3; have HG3 := Lib.hid hg3; clear hz3 hg3))
  have hb3 : Below w2.heap.size w2 w3 := (below_alloc w2 (.cells [.bool false, .bool false].toArray 66)).grown HG3.out (by simp) (fun j hj => by cases hj; rw [HKK.out]; exact Nat.le_refl _)
  have M3 := Lib.hid (M2.out.bel hb3)
  have k0 : w3.cell? ⟨kk, 0, none⟩ = some (.bool o1) := HZ3.out.at_ 0
  have g0 : w3.cell? ⟨g, 0, none⟩ = some (.bool sv) := (HG.out _ _ M3.out.tz).1
  clear hb3 hW1 M1b M2 HOF HG3 HRK
  go_quiet (fail)
  have bV := bel_drewN w3.heap.size w3 nq
  obtain ⟨V, hV⟩ : ∃ V, w3.drewN nq = V := ⟨_, rfl⟩
  rw [hV] at bV ⊢
  have MV := Lib.hid (M3.out.bel bV)
  have KV := Lib.hid (HZ3.out.bel bV)
  clear hV bV k0 g0 M3 HZ3
  have v1 : V.cell? ⟨kk, 1, none⟩ = some (.bool true) := KV.out.at_ 1
  go_upto_region 6 with (fail)
  have q0 : V.cell? ⟨kk, 0, none⟩ = some (.bool o1) := KV.out.at_ 0
  have g0 : V.cell? ⟨g, 0, none⟩ = some (.bool sv) := (HG.out _ _ MV.out.tz).1
  go_quiet (fail)
  have bV := bel_drewN V.heap.size V nq
  obtain ⟨V2, hV⟩ : ∃ V2, V.drewN nq = V2 := ⟨_, rfl⟩
  rw [hV] at bV ⊢
  have MV2 := Lib.hid (MV.out.bel bV)
  have KV2 := Lib.hid (KV.out.bel bV)
  clear hV bV q0 g0 v1 MV KV
  have v1 : V2.cell? ⟨kk, 1, none⟩ = some (.bool true) := KV2.out.at_ 1
  obtain ⟨ρ2, MV3⟩ : ∃ ρ, Hid (MK w role g T Y id V2 ρ sb [.int .u64 (id : Int), .int .u64 0, .int .u64 0, .int .u64 0, .bool false, .pointer none, .pointer none]) := ⟨_, MV2⟩
  clear MV2
  have u1 : V2.cell? ⟨g, 1, none⟩ = some (.int .u64 (ow : Int)) := (HG.out _ _ MV3.out.tz).2.1
  go_upto_region 9 with (first
    | (go_at_call 20; refine (HNT.out V2).mono ?_; rintro y x4 ⟨rfl, p4, b4⟩; have P4 := Lib.hid p4; have B4 := Lib.hid b4; have M4 := Lib.hid (MV3.out.fresh b4 (b := V2.heap.size) (r := rid id + 9) (Nat.le_refl _) p4.lt (by unfold inSt; omega)); obtain ⟨ti, hti⟩ : ∃ q, V2.heap.size = q := ⟨_, rfl⟩; clear p4 b4; unfold ptr)
    | (go_at_call 42; (with_reducible refine (quiltNew_any x4).mono ?_); rintro y x5 ⟨rfl, p5, b5⟩; have m5 := M4.out.fresh b5 (b := x4.heap.size) (r := rid id + 10) (Nat.le_refl _) p5.lt (by unfold inSt; omega); obtain ⟨qb, hqb⟩ : ∃ q, x4.heap.size = q := ⟨_, rfl⟩; have p6 := CR.new x5 89 [.pointer (some ⟨V2.heap.size, 0, none⟩), .pointer (some ⟨x4.heap.size, 0, none⟩), .bool false, .int .u64 0, .bool false, .bool false, .int .i64 0, .int .u64 0, .int .i64 0]; have b6 := below_alloc x5 (.cells [.pointer (some ⟨V2.heap.size, 0, none⟩), .pointer (some ⟨x4.heap.size, 0, none⟩), .bool false, .int .u64 0, .bool false, .bool false, .int .i64 0, .int .u64 0, .int .i64 0].toArray 89); have m6 := m5.fresh b6 (b := x5.heap.size) (r := rid id + 8) (Nat.le_refl _) p6.lt (by unfold inSt; omega); have i6 := in_made (ρ := ρ2) (r := rid id) P4.out B4.out p5 b5 p6 b6; rw [hti, hqb] at m6 i6; obtain ⟨ib, hib⟩ : ∃ q, x5.heap.size = q := ⟨_, rfl⟩; rw [hib] at m6 i6; obtain ⟨x6, hx6⟩ : ∃ q, x5.alloc (.cells #[.pointer (some ⟨ti, 0, none⟩), .pointer (some ⟨qb, 0, none⟩), .bool false, .int .u64 0, .bool false, .bool false, .int .i64 0, .int .u64 0, .int .i64 0] 89) = q := ⟨_, rfl⟩; rw [hx6] at m6 i6; have s6 : x6.cell? ⟨sb, 6, none⟩ = some (.pointer none) := m6.cx.cr.at_ 6; have f6 := m6.cx.cr.fr 6; have M6 := Lib.hid m6; have I6 := Lib.hid i6; clear p5 b5 p6 b6 m5 m6 i6; unfold ptr))
  have M9 := Lib.hid (M6.out.set 6 (.pointer (some ⟨ib, 0, none⟩)))
  have I9 := Lib.hid (I6.out.stq (kq_set M6.out.cx 6 (.pointer (some ⟨ib, 0, none⟩))) (fun j h1 h2 h3 => by omega))
  clear s6 f6 hx6 hib hqb hti P4 B4 M4 M6 I6 u1 v1 MV3 KV2
  obtain ⟨W9, hW9⟩ : ∃ x, x6.setCell ⟨sb, 6, none⟩ (.pointer (some ⟨ib, 0, none⟩)) = x := ⟨_, rfl⟩
  rw [hW9] at M9 I9 ⊢
  clear hW9
  have d9 : W9.cell? ⟨g, 9, none⟩ = some (.map (some Y.ml)) := (HG.out _ _ M9.out.tz).2.2.2
  go_wp2_with (refine L_lput rfl _ _ _ rfl (HLM.out _ _ M9.out.tz) HYN.out id sb HID.out rfl rfl rfl ?_; intro w9 hl9 hg9; have HL9 := Lib.hid hl9; have HG9 := Lib.hid hg9; clear hl9 hg9)
  go_ret
  have hd := MK.done (ob := none) (ib := some ib) M9.out (s := ⟨0, 0, 0, false, none, some ⟨⟨wi, wi, 0, 0⟩, ⟨[], 0, 0, 0, false⟩, false, 0, false, false, 0, 0, 0⟩⟩) ⟨rfl, rfl, rfl, rfl⟩ (by simp) (by simp) (fun o b' e1 e2 => by cases e1) (fun i b' e1 e2 => by cases e1; cases e2; exact I9.out) HL9.out HG9.out
  exact ⟨_, sb, rfl, hd.1, hd.2⟩
theorem make_any (h : TZ w role g T Y) (hid : id < 18446744073709551616) (hn : T.l id = none) (hY : Y.n < maxLen) :
    Calls Try.prog 22 #[ptr g, .int .u64 (id : Int)] w fun e w' => ∃ role' sb, e = .returned (ptr sb) ∧ TZ w' role' g (makeS T id) { Y with n := Y.n + 1, sb := fun j => if j = id then sb else Y.sb j } ∧ Stq (fun r => r ≠ 0) w w' role role' := by
  cases ho : (od id == T.srv) <;> cases hw : wy id
  · exact make_ff h hid hn hY ho hw
  · exact make_ft h hid hn hY ho hw
  · exact make_tf h hid hn hY ho hw
  · exact make_tt h hid hn hY ho hw
end
end Go.Proofs.Yteekafpkbdbadaa.Pi
