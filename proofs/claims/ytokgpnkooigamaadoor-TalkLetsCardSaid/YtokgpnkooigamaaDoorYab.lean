/- talk: Say of what is said. talk: Asks. TalkLets: two sessions, what is said between them. TalkLets: its walk. -/
import Derived.Test.YtokgpnkooigamaaDoorLR
import Derived.Test.YtokgpnkooigamaaDoorLG
import Derived.Test.YtokgpnkooigamaaDoorLK
import Derived.Test.YtokgpnkooigamaaDoorLM
import Derived.Test.YtokgpnkooigamaaDoorYaa
set_option maxRecDepth 100000
set_option linter.unusedVariables false
namespace Go.Proofs.YtokgpnkooigamaaDoor
open Go.RowKit
/-- what say does to the world: its message's box is k -/
structure SK1 (w : World) (g : Nat) (A : SL) (k : Nat) (w' : World) (A' : SL) : Prop where
  os : w'.os = w.os
  tape : w'.tape = w.tape
  output : w'.output = w.output
  size : w.heap.size ≤ w'.heap.size
  keep : ∀ b, b < w.heap.size → ¬ FP g A b → b ≠ k → w'.heap[b]? = w.heap[b]?
  fp : ∀ b, FP g A' b → FP g A b ∨ w.heap.size ≤ b
  kb : KB w w'
theorem SK.sk1 {w w' : World} {base g k : Nat} {S : SS} {A A' : SL} (h : SK w g A w' A') (hz : SZ w base g S A) : SK1 w g A k w' A' :=
  ⟨h.os, h.tape, h.output, h.size, fun b hb hn _ => h.keep b hb hn, h.fp, h.kb hz⟩
theorem SK1.of {w W0 w' : World} {base g k : Nat} {S : SS} {A A' : SL} {m : List Value} {i : Nat} {v : Value} (hz : SZ w base g S A) (hr : CR w k 31 m) (hkf : ¬ FP g A k) (hb : Below w.heap.size w W0) (h : SK (W0.setCell ⟨k, i, none⟩ v) g A w' A') : SK1 w g A k w' A' := by
  have hs : (W0.setCell ⟨k, i, none⟩ v).heap.size = W0.heap.size := by simp [World.setCell]
  refine ⟨h.os.trans hb.os, h.tape.trans hb.tape, h.output.trans hb.output, Nat.le_trans hb.size (by rw [← hs]; exact h.size), fun b hbl hn hk => ?_, fun b hf => ?_, ?_⟩
  · rw [h.keep b (by rw [hs]; exact Nat.lt_of_lt_of_le hbl hb.size) hn, Below.heap_setCell _ _ _ _ (fun he => hk he)]
    exact hb.block b hbl
  · rcases h.fp b hf with h1 | h1
    · exact .inl h1
    · rw [hs] at h1; exact .inr (Nat.le_trans hb.size h1)
  · exact ((KB.bel hb).trans (KB.set (hr.bel hb) (by decide) (by decide) v)).trans (h.kb ((hz.bel hb).setM (hr.bel hb) hkf i v))
theorem KB.grownCR {w w' : World} {g : Nat} {t : TypeId} {l : List Value} (h : CR w g t l) (h1 : t ≠ 5) (h2 : t ≠ 23) (hg : w.grownBy w' (some g)) : KB w w' := fun b cur e fr he hb => by
  refine hg.block b (Array.getElem?_eq_some_iff.1 hb).1 (fun hk => ?_)
  injection hk with hk
  unfold CR at h
  rw [← hk, hb] at h
  injection h with h
  injection h with h3 h4
  rcases he with rfl | rfl
  · exact h1 h4.symm
  · exact h2 h4.symm
theorem SK.grown {w w1 w2 : World} {g j : Nat} {A A' : SL} (h : SK w g A w1 A') (hg : w1.grownBy w2 (some j)) (hj : w.heap.size ≤ j) : SK w g A w2 A' :=
  ⟨hg.os.trans h.os, hg.tape.trans h.tape, hg.output.trans h.output, Nat.le_trans h.size hg.size, fun b hb hn => by
    rw [hg.block b (Nat.lt_of_lt_of_le hb h.size) (fun he => by injection he with he; omega)]
    exact h.keep b hb hn, h.fp⟩
theorem SK1.sk {w0 w w' : World} {g k : Nat} {A A' : SL} (h : SK1 w g A k w' A') (hb : Below w0.heap.size w0 w) (hk : w0.heap.size ≤ k) : SK w0 g A w' A' :=
  ⟨h.os.trans hb.os, h.tape.trans hb.tape, h.output.trans hb.output, Nat.le_trans hb.size h.size, fun b hbl hn => by
    rw [h.keep b (Nat.lt_of_lt_of_le hbl hb.size) hn (by omega)]
    exact hb.block b hbl, fun b hf => by
    rcases h.fp b hf with h1 | h1
    · exact .inl h1
    · exact .inr (Nat.le_trans hb.size h1)⟩
theorem SZ.grown {w w' : World} {base g j : Nat} {S : SS} {A : SL} {t : TypeId} {l : List Value} (h : SZ w base g S A) (hr : CR w j t l) (h1 : t ≠ 5) (h2 : t ≠ 23) (hj : ¬ FP g A j) (hg : w.grownBy w' (some j)) : SZ w' base g S A :=
  h.keep (KB.grownCR hr h1 h2 hg) (fun b hf => hg.block b (h.fp_ge hf).2 (fun he => by injection he with he; exact hj (by rw [← he]; exact hf)))
section
variable {w : World} {base g : Nat} {S : SS} {A : SL} {m : MG} {s : ML}
set_option maxHeartbeats 8000000 in
theorem Say_go (h : SZ w base g S A) (hm : MR w m s) (hK : KA w) (hB : base ≤ w.heap.size) (hc : S.code = 0) (hr : rightM m = true) (rq : Bool) (hq : requestS m.kind = rq) (hid : rq = true → m.id = 0) (h32 : m.kind ≠ 32) (h33 : m.kind ≠ 33) (h21 : m.kind ≠ 21) {S1 : SS} {m1 : MG}
    (hmo : ∀ (W : World) (b : Nat) (s2 : ML), MO W b m s2 → MO W b m1 s2)
    (hh : ∀ (W : World) (k : Nat) (s2 : ML), SZ W base g S A → CR W k 31 (mgc m s2) → MO W base m s2 → base ≤ W.heap.size → ¬ FP g A k → Calls Tryd.prog 25 #[.pointer (some ⟨g, 0, none⟩), .pointer (some ⟨k, 0, none⟩)] W fun e w' => e = .returned (.int .i64 0) ∧ ∃ A', SZ w' base g S1 A' ∧ CR w' k 31 (mgc m1 s2) ∧ SK1 W g A k w' A') :
    Calls Tryd.prog 13 #[.pointer (some ⟨g, 0, none⟩), .agg (mgc m s).toArray] w fun e w' => ∃ s' A', e = .returned (.tuple #[.agg (mgc m1 s').toArray, .int .i64 0]) ∧ MO w' w.heap.size m1 s' ∧ SZ w' base g S1 A' ∧ SK w g A w' A' := by
  obtain ⟨k, hk⟩ : ∃ k, w.heap.size = k := ⟨_, rfl⟩
  have hA := heap_alloc2a w (.cells (mgc m s).toArray 31) (.cells Z16.toArray 31)
  have hZ := heap_alloc2b w (.cells (mgc m s).toArray 31) (.cells Z16.toArray 31)
  have hb : Below w.heap.size w ((w.alloc (.cells (mgc m s).toArray 31)).alloc (.cells Z16.toArray 31)) := (below_alloc w _).alloc (by simp) _
  obtain ⟨W1, hW1⟩ : ∃ x, (w.alloc (.cells (mgc m s).toArray 31)).alloc (.cells Z16.toArray 31) = x := ⟨_, rfl⟩
  rw [hW1, hk] at hA hZ
  rw [hW1] at hb
  have hrA : CR W1 k 31 (mgc m s) := hA
  have hrZ : CR W1 (k + 1) 31 Z16 := hZ
  have hz1 := h.bel hb
  have hm1 := hm.bel hb (Nat.le_refl _)
  have hrt := tright_any W1 m s hm1 (hK.bel hb (Nat.le_refl _))
  rw [hr] at hrt
  have HRQ := Lib.hid (fun (x : World) => by have := request_any x m.kind; rw [hq] at this; exact this)
  have g7 : W1.cell? ⟨g, 7, none⟩ = some (.int .u64 0) := by have := hz1.row.at_ 7; rw [hc] at this; exact this
  have hkf : ∀ j, k ≤ j → ¬ FP g A j := fun j hj hf => by have := (h.fp_ge hf).2; omega
  have HB1 := Lib.hid hb
  have HA := Lib.hid hrA
  have HZ := Lib.hid hrZ
  have HZ1 := Lib.hid hz1
  have HM1 := Lib.hid hm1
  have HRT := Lib.hid hrt
  have HK := Lib.hid hkf
  have HKW := Lib.hid hk
  have HBB := Lib.hid hB
  have HRG := Lib.hid hrA.rng
  have HH := Lib.hid hh
  have HMO := Lib.hid hmo
  have q32 : ((m.kind : Int) == 32) = false := by simp; omega
  have q33 : ((m.kind : Int) == 33) = false := by simp; omega
  have q21 : ((m.kind : Int) == 21) = false := by simp; omega
  have HU := Lib.hid (show ∀ s', mgc m s' = [.int .u64 (m.kind : Int), .int .u64 (m.id : Int), .int .u64 (m.alias : Int), .slice s'.nm.a s'.nm.n s'.nm.c, .int .u8 (m.prio : Int), .int .u8 (m.ord : Int), .int .u64 (m.sg : Int), .int .u64 (m.so : Int), .int .u64 (m.eg : Int), .int .u64 (m.eo : Int), .bool m.some, .int .u64 (m.code : Int), .slice s'.rs.a s'.rs.n s'.rs.c, .int .u64 (m.n : Int), .int .u64 (m.ver : Int), .slice s'.vs.a s'.vs.n s'.vs.c] from fun s' => rfl)
  clear hA hZ hb hrA hrZ hz1 hm1 hrt hkf hK hB hc hr hq h32 h33 h21 hh hmo h hm
  have c0 : W1.cell? ⟨k, 0, none⟩ = some (.int .u64 (m.kind : Int)) := HA.out.at_ 0
  have c1 : W1.cell? ⟨k, 1, none⟩ = some (.int .u64 (m.id : Int)) := HA.out.at_ 1
  unfold mgc Go.Proofs.YtokgpnkooigamaaDoor.u64 SA.v at HRG
  unfold mgc Go.Proofs.YtokgpnkooigamaaDoor.u64 SA.v Z16 at hW1
  unfold mgc Go.Proofs.YtokgpnkooigamaaDoor.u64 SA.v
  cases rq with
  | true =>
    have qi : ((m.id : Int) != 0) = false := by rw [hid rfl]; rfl
    clear hid
    go_enter Tryd.func13, Tryd.ntmps13
    go_upto_region 7 with (first
      | (refine L_loadG 31 _ rfl (by rfl) _ _ rfl _ _ HRG.out Tryd.underlying31 rfl iMsg ?_)
      | (go_at_call 23; refine HRT.out.mono ?_; rintro y w2 ⟨rfl, B2⟩; have HB2 := Lib.hid B2; have c0b : w2.cell? ⟨k, 0, none⟩ = some (.int .u64 (m.kind : Int)) := (HA.out.bel B2).at_ 0; have c1b : w2.cell? ⟨k, 1, none⟩ = some (.int .u64 (m.id : Int)) := (HA.out.bel B2).at_ 1; clear B2)
      | (go_at_call 24; refine (HRQ.out w2).mono ?_; rintro y w3 ⟨rfl, rfl⟩))
    have hrg2 := (HA.out.bel HB2.out).rng
    unfold mgc Go.Proofs.YtokgpnkooigamaaDoor.u64 SA.v at hrg2
    have HRG2 := Lib.hid hrg2
    have HCP := Lib.hid (copyOf_any w2 m s (HM1.out.bel HB2.out (Nat.le_refl _)))
    clear hrg2 c0 c1 c0b c1b HRG HRT HRQ q32 q33 q21 g7
    go_upto_region 8 with (first
      | (refine L_loadG 31 _ rfl (by rfl) _ _ rfl _ _ HRG2.out Tryd.underlying31 rfl iMsg ?_)
      | (go_at_call 21; refine HCP.out.mono ?_; rintro y w3 ⟨s2, rfl, m2, b3⟩; have HB3 := Lib.hid b3; have HM3 := Lib.hid m2; have HA3 := Lib.hid ((HA.out.bel HB2.out).bel b3); clear m2 b3)
      | (refine L_storeRow (old := mgc m s) (new := mgc m s2) rfl 31 _ _ rfl rfl rfl HA3.out iMsg rfl rfl (mgc_one m s2) ?_; intro w4 hz4 hg4; have HA4 := Lib.hid (show CR w4 k 31 (mgc m s2) from hz4); have HG4 := Lib.hid hg4; clear hz4 hg4))
    have hk3 : k + 1 < w3.heap.size := by have := HB3.out.size; have := HB2.out.size; have := HZ.out.lt; omega
    have HZ4 := Lib.hid (((HZ1.out.bel HB2.out).bel HB3.out).grown HA3.out (by decide) (by decide) (HK.out k (Nat.le_refl _)) HG4.out)
    have hm4 := HM3.out.kb (KB.grownCR HA3.out (by decide) (by decide) HG4.out)
    have hw2 : w.heap.size ≤ w2.heap.size := Nat.le_trans HB1.out.size HB2.out.size
    have HM4 := Lib.hid (hm4.mono (Nat.le_trans HBB.out hw2))
    have HMW := Lib.hid (HMO.out _ _ _ (hm4.mono hw2))
    have HR4 := Lib.hid (((HZ.out.bel HB2.out).bel HB3.out).keep (HG4.out.block (k + 1) hk3 (fun he => by injection he with he; omega)))
    have HB4 := Lib.hid ((btr (btr HB1.out HB2.out) HB3.out).grown HG4.out (by have := HB1.out.size; have := HB2.out.size; have := HB3.out.size; omega) (fun j hj => by cases hj; have := HKW.out; omega))
    have HSY := Lib.hid (HH.out w4 k s2 HZ4.out HA4.out HM4.out (Nat.le_trans HBB.out HB4.out.size) (HK.out k (Nat.le_refl _)))
    have hk4 : k + 1 < w4.heap.size := by have := HG4.out.size; omega
    have HK4 := Lib.hid hk4
    clear hk3 hm4 hw2 hk4
    go_upto_region 11 with (go_at_call 25; refine HSY.out.mono ?_; rintro y w5 ⟨rfl, A5, z5, r5, k5⟩; have HZ5 := Lib.hid z5; have HR5 := Lib.hid r5; have HK5 := Lib.hid k5; clear z5 r5 k5)
    have HRZ5 := Lib.hid (HR4.out.keep (HK5.out.keep (k + 1) HK4.out (HK.out _ (Nat.le_succ _)) (by omega)))
    have HRG5 := Lib.hid HR5.out.rng
    go_wp2_with (first
      | (refine L_loadG 31 _ rfl (by rfl) _ _ rfl _ _ HRG5.out Tryd.underlying31 rfl iMsg ?_)
      | (refine L_storeRow (old := Z16) (new := mgc m1 s2) rfl 31 _ _ rfl rfl rfl HRZ5.out iMsg rfl rfl (mgc_one m1 s2) ?_; intro w6 hz6 hg6; have HG6 := Lib.hid hg6; have HZ6 := Lib.hid hz6; clear hz6 hg6))
    refine bodyPost_ret_by (results_row1s rfl _ _ _ _ _ _ rfl HZ6.out Tryd.underlying31 rfl iMsg) rfl ?_
    refine ⟨s2, A5, rfl, (HMW.out.kb HK5.out.kb).kb (KB.grownCR HRZ5.out (by decide) (by decide) HG6.out), HZ5.out.grown HRZ5.out (by decide) (by decide) (fun hf => ?_) HG6.out, (HK5.out.sk HB4.out (by rw [HKW.out]; exact Nat.le_refl _)).grown HG6.out (by rw [HKW.out]; omega)⟩
    rcases HK5.out.fp _ hf with h1 | h1
    · exact HK.out _ (Nat.le_succ _) h1
    · have := HK4.out; omega
  | false =>
    clear hid
    go_enter Tryd.func13, Tryd.ntmps13
    go_upto_region 7 with (first
      | (refine L_loadG 31 _ rfl (by rfl) _ _ rfl _ _ HRG.out Tryd.underlying31 rfl iMsg ?_)
      | (go_at_call 23; refine HRT.out.mono ?_; rintro y w2 ⟨rfl, B2⟩; have HB2 := Lib.hid B2; have c0b : w2.cell? ⟨k, 0, none⟩ = some (.int .u64 (m.kind : Int)) := (HA.out.bel B2).at_ 0; have c1b : w2.cell? ⟨k, 1, none⟩ = some (.int .u64 (m.id : Int)) := (HA.out.bel B2).at_ 1; clear B2)
      | (go_at_call 24; refine (HRQ.out w2).mono ?_; rintro y w3 ⟨rfl, rfl⟩))
    have hrg2 := (HA.out.bel HB2.out).rng
    unfold mgc Go.Proofs.YtokgpnkooigamaaDoor.u64 SA.v at hrg2
    have HRG2 := Lib.hid hrg2
    have HCP := Lib.hid (copyOf_any w2 m s (HM1.out.bel HB2.out (Nat.le_refl _)))
    clear hrg2 c0 c1 c0b c1b HRG HRT HRQ q32 q33 q21 g7
    go_upto_region 8 with (first
      | (refine L_loadG 31 _ rfl (by rfl) _ _ rfl _ _ HRG2.out Tryd.underlying31 rfl iMsg ?_)
      | (go_at_call 21; refine HCP.out.mono ?_; rintro y w3 ⟨s2, rfl, m2, b3⟩; have HB3 := Lib.hid b3; have HM3 := Lib.hid m2; have HA3 := Lib.hid ((HA.out.bel HB2.out).bel b3); clear m2 b3)
      | (refine L_storeRow (old := mgc m s) (new := mgc m s2) rfl 31 _ _ rfl rfl rfl HA3.out iMsg rfl rfl (mgc_one m s2) ?_; intro w4 hz4 hg4; have HA4 := Lib.hid (show CR w4 k 31 (mgc m s2) from hz4); have HG4 := Lib.hid hg4; clear hz4 hg4))
    have hk3 : k + 1 < w3.heap.size := by have := HB3.out.size; have := HB2.out.size; have := HZ.out.lt; omega
    have HZ4 := Lib.hid (((HZ1.out.bel HB2.out).bel HB3.out).grown HA3.out (by decide) (by decide) (HK.out k (Nat.le_refl _)) HG4.out)
    have hm4 := HM3.out.kb (KB.grownCR HA3.out (by decide) (by decide) HG4.out)
    have hw2 : w.heap.size ≤ w2.heap.size := Nat.le_trans HB1.out.size HB2.out.size
    have HM4 := Lib.hid (hm4.mono (Nat.le_trans HBB.out hw2))
    have HMW := Lib.hid (HMO.out _ _ _ (hm4.mono hw2))
    have HR4 := Lib.hid (((HZ.out.bel HB2.out).bel HB3.out).keep (HG4.out.block (k + 1) hk3 (fun he => by injection he with he; omega)))
    have HB4 := Lib.hid ((btr (btr HB1.out HB2.out) HB3.out).grown HG4.out (by have := HB1.out.size; have := HB2.out.size; have := HB3.out.size; omega) (fun j hj => by cases hj; have := HKW.out; omega))
    have HSY := Lib.hid (HH.out w4 k s2 HZ4.out HA4.out HM4.out (Nat.le_trans HBB.out HB4.out.size) (HK.out k (Nat.le_refl _)))
    have hk4 : k + 1 < w4.heap.size := by have := HG4.out.size; omega
    have HK4 := Lib.hid hk4
    clear hk3 hm4 hw2 hk4
    go_upto_region 11 with (go_at_call 25; refine HSY.out.mono ?_; rintro y w5 ⟨rfl, A5, z5, r5, k5⟩; have HZ5 := Lib.hid z5; have HR5 := Lib.hid r5; have HK5 := Lib.hid k5; clear z5 r5 k5)
    have HRZ5 := Lib.hid (HR4.out.keep (HK5.out.keep (k + 1) HK4.out (HK.out _ (Nat.le_succ _)) (by omega)))
    have HRG5 := Lib.hid HR5.out.rng
    go_wp2_with (first
      | (refine L_loadG 31 _ rfl (by rfl) _ _ rfl _ _ HRG5.out Tryd.underlying31 rfl iMsg ?_)
      | (refine L_storeRow (old := Z16) (new := mgc m1 s2) rfl 31 _ _ rfl rfl rfl HRZ5.out iMsg rfl rfl (mgc_one m1 s2) ?_; intro w6 hz6 hg6; have HG6 := Lib.hid hg6; have HZ6 := Lib.hid hz6; clear hz6 hg6))
    refine bodyPost_ret_by (results_row1s rfl _ _ _ _ _ _ rfl HZ6.out Tryd.underlying31 rfl iMsg) rfl ?_
    refine ⟨s2, A5, rfl, (HMW.out.kb HK5.out.kb).kb (KB.grownCR HRZ5.out (by decide) (by decide) HG6.out), HZ5.out.grown HRZ5.out (by decide) (by decide) (fun hf => ?_) HG6.out, (HK5.out.sk HB4.out (by rw [HKW.out]; exact Nat.le_refl _)).grown HG6.out (by rw [HKW.out]; omega)⟩
    rcases HK5.out.fp _ hf with h1 | h1
    · exact HK.out _ (Nat.le_succ _) h1
    · have := HK4.out; omega
set_option maxHeartbeats 8000000 in
theorem Say_credit (h : SZ w base g S A) (hm : MR w m s) (hK : KA w) (hB : base ≤ w.heap.size) (hc : S.code = 0) (hr : rightM m = true) (hk3 : m.kind = 3) (hid : m.id = 0) (hal : S.own.any (aliasB m.alias) = false) (hu : upS S = true) (hl : S.own.length ≤ 1048576) (hle : S.ol ≤ S.own.length) :
    Calls Tryd.prog 13 #[.pointer (some ⟨g, 0, none⟩), .agg (mgc m s).toArray] w fun e w' => e = .returned (.tuple #[.agg Z16.toArray, .int .i64 12]) ∧ Below w.heap.size w w' := by
  obtain ⟨k, hk⟩ : ∃ k, w.heap.size = k := ⟨_, rfl⟩
  have hA := heap_alloc2a w (.cells (mgc m s).toArray 31) (.cells Z16.toArray 31)
  have hZ := heap_alloc2b w (.cells (mgc m s).toArray 31) (.cells Z16.toArray 31)
  have hb : Below w.heap.size w ((w.alloc (.cells (mgc m s).toArray 31)).alloc (.cells Z16.toArray 31)) := (below_alloc w _).alloc (by simp) _
  obtain ⟨W1, hW1⟩ : ∃ x, (w.alloc (.cells (mgc m s).toArray 31)).alloc (.cells Z16.toArray 31) = x := ⟨_, rfl⟩
  rw [hW1, hk] at hA hZ
  rw [hW1] at hb
  have hrA : CR W1 k 31 (mgc m s) := hA
  have hrZ : CR W1 (k + 1) 31 Z16 := hZ
  have hz1 := h.bel hb
  have hm1 := hm.bel hb (Nat.le_refl _)
  have hrt := tright_any W1 m s hm1 (hK.bel hb (Nat.le_refl _))
  rw [hr] at hrt
  have HRQ := Lib.hid (fun (x : World) => by have := request_any x m.kind; rw [show requestS m.kind = true by rw [hk3]; rfl] at this; exact this)
  have g7 : W1.cell? ⟨g, 7, none⟩ = some (.int .u64 0) := by have := hz1.row.at_ 7; rw [hc] at this; exact this
  have hkf : ∀ j, k ≤ j → ¬ FP g A j := fun j hj hf => by have := (h.fp_ge hf).2; omega
  have HB1 := Lib.hid hb
  have HA := Lib.hid hrA
  have HZ := Lib.hid hrZ
  have HZ1 := Lib.hid hz1
  have HM1 := Lib.hid hm1
  have HRT := Lib.hid hrt
  have HK := Lib.hid hkf
  have HKW := Lib.hid hk
  have HBB := Lib.hid hB
  have HRG := Lib.hid hrA.rng
  have HH := Lib.hid (fun (W : World) (s2 : ML) (z : SZ W base g S A) (r : CR W k 31 (mgc m s2)) => say_credit z r hk3 hal hu hl hle)
  have q32 : ((m.kind : Int) == 32) = false := by simp; omega
  have q33 : ((m.kind : Int) == 33) = false := by simp; omega
  have q21 : ((m.kind : Int) == 21) = false := by simp; omega
  have HU := Lib.hid (show ∀ s', mgc m s' = [.int .u64 (m.kind : Int), .int .u64 (m.id : Int), .int .u64 (m.alias : Int), .slice s'.nm.a s'.nm.n s'.nm.c, .int .u8 (m.prio : Int), .int .u8 (m.ord : Int), .int .u64 (m.sg : Int), .int .u64 (m.so : Int), .int .u64 (m.eg : Int), .int .u64 (m.eo : Int), .bool m.some, .int .u64 (m.code : Int), .slice s'.rs.a s'.rs.n s'.rs.c, .int .u64 (m.n : Int), .int .u64 (m.ver : Int), .slice s'.vs.a s'.vs.n s'.vs.c] from fun s' => rfl)
  have qi : ((m.id : Int) != 0) = false := by rw [hid]; rfl
  clear hA hZ hb hrA hrZ hz1 hm1 hrt hkf hK hB hc hr hk3 hid hal hu hl hle h hm
  have c0 : W1.cell? ⟨k, 0, none⟩ = some (.int .u64 (m.kind : Int)) := HA.out.at_ 0
  have c1 : W1.cell? ⟨k, 1, none⟩ = some (.int .u64 (m.id : Int)) := HA.out.at_ 1
  unfold mgc Go.Proofs.YtokgpnkooigamaaDoor.u64 SA.v at HRG
  unfold mgc Go.Proofs.YtokgpnkooigamaaDoor.u64 SA.v Z16 at hW1
  unfold mgc Go.Proofs.YtokgpnkooigamaaDoor.u64 SA.v
  go_enter Tryd.func13, Tryd.ntmps13
  go_upto_region 7 with (first
    | (refine L_loadG 31 _ rfl (by rfl) _ _ rfl _ _ HRG.out Tryd.underlying31 rfl iMsg ?_)
    | (go_at_call 23; refine HRT.out.mono ?_; rintro y w2 ⟨rfl, B2⟩; have HB2 := Lib.hid B2; have c0b : w2.cell? ⟨k, 0, none⟩ = some (.int .u64 (m.kind : Int)) := (HA.out.bel B2).at_ 0; have c1b : w2.cell? ⟨k, 1, none⟩ = some (.int .u64 (m.id : Int)) := (HA.out.bel B2).at_ 1; clear B2)
    | (go_at_call 24; refine (HRQ.out w2).mono ?_; rintro y w3 ⟨rfl, rfl⟩))
  have hrg2 := (HA.out.bel HB2.out).rng
  unfold mgc Go.Proofs.YtokgpnkooigamaaDoor.u64 SA.v at hrg2
  have HRG2 := Lib.hid hrg2
  have HCP := Lib.hid (copyOf_any w2 m s (HM1.out.bel HB2.out (Nat.le_refl _)))
  clear hrg2 c0 c1 c0b c1b HRG HRT HRQ q32 q33 q21 g7
  go_upto_region 8 with (first
    | (refine L_loadG 31 _ rfl (by rfl) _ _ rfl _ _ HRG2.out Tryd.underlying31 rfl iMsg ?_)
    | (go_at_call 21; refine HCP.out.mono ?_; rintro y w3 ⟨s2, rfl, m2, b3⟩; have HB3 := Lib.hid b3; have HM3 := Lib.hid m2; have HA3 := Lib.hid ((HA.out.bel HB2.out).bel b3); clear m2 b3)
    | (refine L_storeRow (old := mgc m s) (new := mgc m s2) rfl 31 _ _ rfl rfl rfl HA3.out iMsg rfl rfl (mgc_one m s2) ?_; intro w4 hz4 hg4; have HA4 := Lib.hid (show CR w4 k 31 (mgc m s2) from hz4); have HG4 := Lib.hid hg4; clear hz4 hg4))
  have hk3 : k + 1 < w3.heap.size := by have := HB3.out.size; have := HB2.out.size; have := HZ.out.lt; omega
  have HZ4 := Lib.hid (((HZ1.out.bel HB2.out).bel HB3.out).grown HA3.out (by decide) (by decide) (HK.out k (Nat.le_refl _)) HG4.out)
  have hm4 := HM3.out.kb (KB.grownCR HA3.out (by decide) (by decide) HG4.out)
  have hw2 : w.heap.size ≤ w2.heap.size := Nat.le_trans HB1.out.size HB2.out.size
  have HM4 := Lib.hid (hm4.mono (Nat.le_trans HBB.out hw2))
  have HR4 := Lib.hid (((HZ.out.bel HB2.out).bel HB3.out).keep (HG4.out.block (k + 1) hk3 (fun he => by injection he with he; omega)))
  have HB4 := Lib.hid ((btr (btr HB1.out HB2.out) HB3.out).grown HG4.out (by have := HB1.out.size; have := HB2.out.size; have := HB3.out.size; omega) (fun j hj => by cases hj; have := HKW.out; omega))
  have HSY := Lib.hid (HH.out w4 s2 HZ4.out HA4.out)
  have hk4 : k + 1 < w4.heap.size := by have := HG4.out.size; omega
  have HK4 := Lib.hid hk4
  clear hk3 hm4 hw2 hk4
  go_wp2_with (first
    | (go_at_call 25; refine HSY.out.mono ?_; rintro y w5 ⟨rfl, b5⟩; have HB5 := Lib.hid b5; have HRZ5 := Lib.hid (HR4.out.bel b5); clear b5)
    | (refine L_storeRow (old := Z16) (new := Z16) rfl 31 _ _ rfl rfl rfl HRZ5.out iMsg rfl rfl (by simp [Z16, Value.oneCell']) ?_; intro w6 hz6 hg6; have HG6 := Lib.hid hg6; have HZ6 := Lib.hid hz6; clear hz6 hg6))
  refine bodyPost_ret_by (results_row1s rfl _ _ _ _ _ _ rfl HZ6.out Tryd.underlying31 rfl iMsg) rfl ?_
  exact ⟨rfl, (HB4.out.trans (HB5.out.mono HB4.out.size)).grown HG6.out (by have := HB4.out.size; have := HB5.out.size; omega) (fun j hj => by cases hj; rw [HKW.out]; omega)⟩
end
end Go.Proofs.YtokgpnkooigamaaDoor
set_option maxRecDepth 100000
set_option linter.unusedVariables false
namespace Go.Proofs.YtokgpnkooigamaaDoor
open Go.RowKit
theorem AO.app {w w' : World} {base : Nat} {s : SA} {xs : List AG} {ls : List ML} (h : AO w base s xs ls) {x : AG} {l : ML} (hm : MO w base x.m l) {a2 : Option Addr} {c2 : Nat} (ho : OW w' base 49 17 a2 (s.n + 1) c2 (akL xs ls ++ akc x l)) (hg : w.grownBy w' (s.a.map (·.block))) : AO w' base ⟨a2, s.n + 1, c2⟩ (xs ++ [x]) (ls ++ [l]) := by
  have hk : KB w w' := KB.grown h.row (by decide) (by decide) hg
  refine ⟨by simp [h.len], by simp [h.n], by rw [akL_snoc _ _ _ _ h.len]; exact ho, fun i y k h1 h2 => ?_⟩
  by_cases hi : i < xs.length
  · rw [List.getElem?_append_left hi] at h1
    rw [List.getElem?_append_left (by rw [h.len]; exact hi)] at h2
    exact (h.ms i y k h1 h2).kb hk
  · have hl := (List.getElem?_eq_some_iff.1 h1).1
    simp at hl
    obtain rfl : i = xs.length := by omega
    rw [List.getElem?_append_right (Nat.le_refl _), Nat.sub_self] at h1
    rw [List.getElem?_append_right (by rw [h.len]; exact Nat.le_refl _), h.len, Nat.sub_self] at h2
    cases h1; cases h2
    exact hm.kb hk
/-- those that are not over -/
def liveS (xs : List AG) : List AG := xs.filter (fun x => x.st != 3)
theorem live_step {xs : List AG} {i : Nat} {x : AG} (h : xs[i]? = some x) : liveS (xs.take (i + 1)) = if x.st = 3 then liveS (xs.take i) else liveS (xs.take i) ++ [x] := by
  obtain ⟨hl, he⟩ := List.getElem?_eq_some_iff.1 h
  unfold liveS
  rw [List.take_succ_eq_append_getElem hl, List.filter_append, he]
  by_cases h3 : x.st = 3
  · simp [h3]
  · simp [h3]
theorem live_len (xs : List AG) : (liveS xs).length ≤ xs.length := List.length_filter_le _ _
def askZ : List Value := zmsg ++ [.int .i64 0]
theorem akc_one (x : AG) (l : ML) : ∀ v ∈ akc x l, v.oneCell' = true := fun v hv => by
  simp only [akc, List.mem_append, List.mem_singleton] at hv
  rcases hv with hv | rfl
  · exact mgc_one x.m l v hv
  · rfl
structure ASK (w : World) (xs : List AG) (i : Nat) (s : SA) (wr : World) : Prop where
  le : i ≤ xs.length
  b : Below w.heap.size w wr
  ex : ∃ ls, AO wr w.heap.size s (liveS (xs.take i)) ls
theorem ASK.skip {w wr w' : World} {xs : List AG} {i : Nat} {s : SA} {x : AG} (h : ASK w xs i s wr) (hx : xs[i]? = some x) (h3 : x.st = 3) (hb : Below wr.heap.size wr w') : ASK w xs (i + 1) s w' := by
  obtain ⟨ls, hl⟩ := h.ex
  refine ⟨(List.getElem?_eq_some_iff.1 hx).1, h.b.trans (hb.mono h.b.size), ls, ?_⟩
  rw [live_step hx, if_pos h3]
  exact hl.keep (KB.bel hb) (fun ad ha => hb.block _ (hl.row.base_le ha).2)
section
variable {w : World} {base g : Nat} {S : SS} {A : SL}
set_option maxHeartbeats 16000000 in
theorem asks_true (h : SZ w base g S A) (hxl : S.own.length ≤ 1048576) :
    Calls Tryd.prog 16 #[.pointer (some ⟨g, 0, none⟩), .bool true] w fun e w' => ∃ s ls, e = .returned (.slice s.a s.n s.c) ∧ AO w' w.heap.size s (liveS S.own) ls ∧ Below w.heap.size w w' := by
  have c1 : w.cell? ⟨g, 1, none⟩ = some (.slice A.ow.a A.ow.n A.ow.c) := h.row.at_ 1
  have c3 : w.cell? ⟨g, 3, none⟩ = some (.slice A.th.a A.th.n A.th.c) := h.row.at_ 3
  have ht1 := h.ow
  have hz := h.ow.row
  obtain ⟨xs, hxs⟩ : ∃ xs, S.own = xs := ⟨_, rfl⟩
  obtain ⟨lt, hlt⟩ : ∃ l, A.lo = l := ⟨_, rfl⟩
  obtain ⟨⟨ta, tn, tc⟩, ht⟩ : ∃ t, A.ow = t := ⟨_, rfl⟩
  rw [hxs, ht, hlt] at ht1
  rw [hxs] at hxl ⊢
  rw [ht] at c1
  simp only at c1
  have hn : xs.length = tn := ht1.n
  have HT := Lib.hid ht1
  have H0 := Lib.hid (⟨Nat.zero_le _, Below.refl _ _, [], AO.nil w w.heap.size⟩ : ASK w xs 0 SA0 w)
  clear hxs h ht1 hz ht hlt
  go_enter Tryd.func16, Tryd.ntmps16
  go_upto_region 8 with (fail)
  clear c1 c3
  go_loopw [24, 6] (fun s24 s6 wr => ∃ (i : Nat) (s : SA), s24 = .int .i64 (i : Int) ∧ s6 = .slice s.a s.n s.c ∧ ASK w xs i s wr) (fun s24 _ _ => match s24 with | .int _ x => (tn - x).toNat | _ => 0)
  case atStart => exact ⟨0, SA0, rfl, rfl, H0.out⟩
  case round =>
    clear H0
    obtain ⟨i, s, rfl, rfl, ho⟩ := hrel
    have hi := ho.le
    have O := Lib.hid ho
    clear ho
    by_cases hik : i = tn
    · subst hik
      have HX := Lib.hid (show liveS (xs.take i) = liveS xs by rw [List.take_of_length_le (by omega)])
      clear HT hn
      go_wp2
      go_ret
      obtain ⟨ls, hl⟩ := O.out.ex
      exact ⟨s, ls, rfl, by rw [← HX.out]; exact hl, O.out.b⟩
    · have hlt : i < tn := by omega
      obtain ⟨x, hx⟩ : ∃ x, xs[i]? = some x := ⟨_, List.getElem?_eq_getElem (by omega)⟩
      have htr := HT.out.keep (KB.bel O.out.b) (fun ad ha => O.out.b.block _ (HT.out.row.base_le ha).2)
      obtain ⟨q, hq, _⟩ := htr.blk hx
      obtain ⟨l, hl⟩ := htr.loc hx
      have hrg := htr.rng hx hl hq
      have hmo := htr.ms i x l hx hl
      simp only at hq
      subst hq
      obtain ⟨J, hJ⟩ : ∃ J, i * 17 = J := ⟨_, rfl⟩
      rw [hJ] at hrg
      obtain ⟨kx, hkx⟩ : ∃ y, wr.heap.size = y := ⟨_, rfl⟩
      have hrx := CR.new wr 49 askZ
      rw [hkx] at hrx
      have HRG := Lib.hid hrg
      have HMO := Lib.hid hmo
      have HJ := Lib.hid hJ
      have HRX := Lib.hid hrx
      have hwr : IntKind.i64.wrap ((i : Int) + 1) = (i : Int) + 1 := IntWalk.i64_in _ (by omega)
      have HKX := Lib.hid hkx
      have HX := Lib.hid hx
      clear hrg hmo hJ hrx hik hl htr hx hn
      go_upto_region 10 with (first
        | ((with_reducible refine gate_ix ?_); refine L_indexZ tA _ _ rfl .i64 _ i rfl rfl rfl hlt HJ.out (by rfl) ?_)
        | (refine L_loadG 49 _ rfl (by rfl) _ _ rfl _ _ HRG.out Tryd.underlying49 rfl iAsk ?_)
        | (refine L_storeRow (old := askZ) (new := akc x l) rfl 49 _ _ rfl rfl rfl HRX.out iAsk rfl rfl (akc_one x l) ?_; intro w5 hz5 hg5; have HZ5 := Lib.hid (show CR w5 kx 49 (akc x l) from hz5); have HG5 := Lib.hid hg5; clear hz5 hg5))
      have hb5 : Below wr.heap.size wr w5 := (below_alloc wr (.cells askZ.toArray 49)).grown HG5.out (by simp) (fun j hj => by cases hj; rw [HKX.out]; exact Nat.le_refl _)
      have HB5 := Lib.hid hb5
      have cst : w5.cell? ⟨kx, 16, none⟩ = some (.int .i64 (x.st : Int)) := HZ5.out.at_ 16
      clear hb5 HRG HRX HG5
      by_cases h3 : x.st = 3
      · have q3 : ((x.st : Int) != 3) = false := by rw [h3]; rfl
        have HS := Lib.hid (O.out.skip HX.out h3 HB5.out)
        clear h3 O HZ5
        go_wp2
        exact ⟨⟨i + 1, s, by simp, rfl, HS.out⟩, by simp; omega⟩
      · have q3 : ((x.st : Int) != 3) = true := by simp; omega
        have H3 := Lib.hid h3
        clear h3
        go_upto_region 11 with (fail)
        obtain ⟨ls, hls⟩ := O.out.ex
        have hls5 := hls.keep (KB.bel HB5.out) (fun ad ha => HB5.out.block _ (hls.row.base_le ha).2)
        obtain ⟨V, hV⟩ : ∃ V, w5.drew = V := ⟨_, rfl⟩
        have bV : Below w5.heap.size w5 V := by rw [← hV]; exact (Below.refl _ _).drew
        have hlsV := hls5.keep (KB.bel bV) (fun ad ha => bV.block _ (hls5.row.base_le ha).2)
        have hcp := copyOf_any V x.m l ((HMO.out.bel HB5.out (Nat.le_refl _)).bel bV (Nat.le_refl _)).mr
        unfold mgc Go.Proofs.YtokgpnkooigamaaDoor.u64 SA.v at hcp
        have HCP := Lib.hid hcp
        have HLV := Lib.hid hlsV
        have hzz := O.out.b.size
        have HBV := Lib.hid ((O.out.b.trans (HB5.out.mono hzz)).trans (bV.mono (Nat.le_trans hzz HB5.out.size)))
        have hnk : ∀ ad, s.a = some ad → ad.block ≠ kx := fun ad ha => by have := (hls.row.base_le ha).2; have := HKX.out; omega
        have HNK := Lib.hid hnk
        have HRK := Lib.hid (fun (y : World) (b : CR y kx 49 (akc x l)) => (⟨b.at_ 16, fun j v hv => b.rng j v (by unfold akc mgc Go.Proofs.YtokgpnkooigamaaDoor.u64 SA.v; rw [List.getElem?_append_left (List.getElem?_eq_some_iff.1 hv).1]; exact hv)⟩ : y.cell? ⟨kx, 16, none⟩ = some (.int .i64 (x.st : Int)) ∧ y.rangeAt kx 0 [.int .u64 (x.m.kind : Int), .int .u64 (x.m.id : Int), .int .u64 (x.m.alias : Int), .slice l.nm.a l.nm.n l.nm.c, .int .u8 (x.m.prio : Int), .int .u8 (x.m.ord : Int), .int .u64 (x.m.sg : Int), .int .u64 (x.m.so : Int), .int .u64 (x.m.eg : Int), .int .u64 (x.m.eo : Int), .bool x.m.some, .int .u64 (x.m.code : Int), .slice l.rs.a l.rs.n l.rs.c, .int .u64 (x.m.n : Int), .int .u64 (x.m.ver : Int), .slice l.vs.a l.vs.n l.vs.c]))
        have HCV := Lib.hid (HZ5.out.bel bV)
        have hheld := HRK.out w5 HZ5.out
        clear hls hls5 hlsV hcp bV hzz cst HMO HZ5 hnk
        refine wp_region_held_drew (S := fun y => y.cell? ⟨kx, 16, none⟩ = some (.int .i64 (x.st : Int)) ∧ y.rangeAt kx 0 [.int .u64 (x.m.kind : Int), .int .u64 (x.m.id : Int), .int .u64 (x.m.alias : Int), .slice l.nm.a l.nm.n l.nm.c, .int .u8 (x.m.prio : Int), .int .u8 (x.m.ord : Int), .int .u64 (x.m.sg : Int), .int .u64 (x.m.so : Int), .int .u64 (x.m.eg : Int), .int .u64 (x.m.eo : Int), .bool x.m.some, .int .u64 (x.m.code : Int), .slice l.rs.a l.rs.n l.rs.c, .int .u64 (x.m.n : Int), .int .u64 (x.m.ver : Int), .slice l.vs.a l.vs.n l.vs.c]) (by kernel_rfl) hheld (fun hHeld => ?_)
        rw [hV] at hHeld ⊢
        clear hV hheld
        refine wpAnyH_take (i := 0) (v := .slice s.a s.n s.c) rfl (by kernel_rfl) (by kernel_rfl) (by kernel_rfl) (fun _ _ _ h => h) (Or.inl ⟨by rfl, fun w h => by go_simp⟩) hHeld ?_
        try simp only [Act.put, List.getElem_toArray, List.getElem_cons_succ, List.getElem_cons_zero, List.setIfInBounds_toArray, List.set_cons_zero, List.set_cons_succ]
        refine wpAnyH_take (i := 1) (v := .pointer (some ⟨kx, 0, none⟩)) rfl (by kernel_rfl) (by kernel_rfl) (by kernel_rfl) (fun _ _ _ h => h) (Or.inl ⟨by rfl, fun w h => by go_simp⟩) hHeld ?_
        try simp only [Act.put, List.getElem_toArray, List.getElem_cons_succ, List.getElem_cons_zero, List.setIfInBounds_toArray, List.set_cons_zero, List.set_cons_succ]
        refine wpAnyH_take (i := 2) rfl (by kernel_rfl) (by kernel_rfl) (by kernel_rfl) (fun _ _ _ h => h) (yieldsIf_load_mid (by rfl) _ _ rfl _ _ rfl _ _ (fun w h => h.2) Tryd.underlying31 rfl iMsg) hHeld ?_
        try simp only [Act.put, List.getElem_toArray, List.getElem_cons_succ, List.getElem_cons_zero, List.setIfInBounds_toArray, List.set_cons_zero, List.set_cons_succ]
        refine wpAnyH_take (i := 4) (v := .pointer (some ⟨kx, 16, none⟩)) rfl (by kernel_rfl) (by kernel_rfl) (by kernel_rfl) (fun _ _ _ h => h) (Or.inl ⟨by rfl, fun w h => by go_simp⟩) hHeld ?_
        try simp only [Act.put, List.getElem_toArray, List.getElem_cons_succ, List.getElem_cons_zero, List.setIfInBounds_toArray, List.set_cons_zero, List.set_cons_succ]
        refine wpAnyH_take (i := 5) (v := .int .i64 (x.st : Int)) rfl (by kernel_rfl) (by kernel_rfl) (by kernel_rfl) (fun _ _ _ h => h) (Or.inl ⟨by rfl, fun w h => by go_simp⟩) hHeld ?_
        try simp only [Act.put, List.getElem_toArray, List.getElem_cons_succ, List.getElem_cons_zero, List.setIfInBounds_toArray, List.set_cons_zero, List.set_cons_succ]
        refine wpAnyH_ready (rs := [3]) (by kernel_rfl) (by simp) (AllReadyH.cons rfl (fun K hK => ?_) AllReadyH.nil)
        go_simp
        go_at_call 21
        refine HCP.out.mono ?_
        rintro y w6 ⟨s6, rfl, m6, b6⟩
        have HC6 := Lib.hid (HCV.out.bel b6)
        have hr6 := HRK.out w6 HC6.out
        have hb6 := HBV.out.trans (b6.mono HBV.out.size)
        have HB6 := Lib.hid hb6
        have HL6 := Lib.hid (HLV.out.keep (KB.bel b6) (fun ad ha => b6.block _ (HLV.out.row.base_le ha).2))
        have HM6 := Lib.hid (m6.mono HBV.out.size)
        refine hK.out _ _ hr6 (fun hHeld => ?_)
        clear hK K hr6 m6 b6 hb6 HCP HLV HBV HCV
        try simp only [Act.put, List.getElem_toArray, List.getElem_cons_succ, List.getElem_cons_zero, List.setIfInBounds_toArray, List.set_cons_zero, List.set_cons_succ]
        refine wpAnyH_take (i := 6) (v := .agg #[.int .u64 (x.m.kind : Int), .int .u64 (x.m.id : Int), .int .u64 (x.m.alias : Int), .slice s6.nm.a s6.nm.n s6.nm.c, .int .u8 (x.m.prio : Int), .int .u8 (x.m.ord : Int), .int .u64 (x.m.sg : Int), .int .u64 (x.m.so : Int), .int .u64 (x.m.eg : Int), .int .u64 (x.m.eo : Int), .bool x.m.some, .int .u64 (x.m.code : Int), .slice s6.rs.a s6.rs.n s6.rs.c, .int .u64 (x.m.n : Int), .int .u64 (x.m.ver : Int), .slice s6.vs.a s6.vs.n s6.vs.c, .int .i64 (x.st : Int)]) rfl (by kernel_rfl) (by kernel_rfl) (by kernel_rfl) (fun _ _ _ h => h) (Or.inl ⟨by rfl, fun w h => by go_simp⟩) hHeld ?_
        try simp only [Act.put, List.getElem_toArray, List.getElem_cons_succ, List.getElem_cons_zero, List.setIfInBounds_toArray, List.set_cons_zero, List.set_cons_succ]
        refine wpAnyH_ready (rs := [7]) (by kernel_rfl) (by simp) (AllReadyH.cons rfl (fun K hK => ?_) AllReadyH.nil)
        go_simp
        have hrs := (OW_made w6 0 49 17 (akc ⟨x.m, x.st⟩ s6).toArray 1 (Nat.zero_le _) rfl (by unfold maxLen; omega) (by simpa using akc_one ⟨x.m, x.st⟩ s6)).rs
        have hbU := below_alloc w6 (.cells (akc ⟨x.m, x.st⟩ s6).toArray 49)
        have HRS := Lib.hid hrs
        have HL7 := Lib.hid (HL6.out.keep (KB.bel hbU) (fun ad ha => hbU.block _ (HL6.out.row.base_le ha).2))
        have HM7 := Lib.hid (HM6.out.bel hbU (Nat.le_refl _))
        have HB7 := Lib.hid (HB6.out.trans (hbU.mono HB6.out.size))
        have HC7 := Lib.hid (HC6.out.bel hbU)
        refine hK.out _ _ (HRK.out _ HC7.out) (fun hHeld => ?_)
        clear hK K hrs hbU HL6 HM6 HB6 HC6
        try simp only [Act.put, List.getElem_toArray, List.getElem_cons_succ, List.getElem_cons_zero, List.setIfInBounds_toArray, List.set_cons_zero, List.set_cons_succ]
        have hwE : w6.alloc (.cells #[.int .u64 (x.m.kind : Int), .int .u64 (x.m.id : Int), .int .u64 (x.m.alias : Int), .slice s6.nm.a s6.nm.n s6.nm.c, .int .u8 (x.m.prio : Int), .int .u8 (x.m.ord : Int), .int .u64 (x.m.sg : Int), .int .u64 (x.m.so : Int), .int .u64 (x.m.eg : Int), .int .u64 (x.m.eo : Int), .bool x.m.some, .int .u64 (x.m.code : Int), .slice s6.rs.a s6.rs.n s6.rs.c, .int .u64 (x.m.n : Int), .int .u64 (x.m.ver : Int), .slice s6.vs.a s6.vs.n s6.vs.c, .int .i64 (x.st : Int)] 49) = w6.alloc (.cells (akc ⟨x.m, x.st⟩ s6).toArray 49) := rfl
        rw [hwE] at hHeld ⊢
        clear hwE
        generalize (World.alloc _ _) = w7 at *
        have hsn : s.n ≤ 1048576 := by have := HL7.out.n; have h2 := live_len (xs.take i); have h3 : (xs.take i).length ≤ xs.length := (by rw [List.length_take]; exact Nat.min_le_right _ _); omega
        refine wpAnyH_ready (rs := [8]) (by kernel_rfl) (by simp) (AllReadyH.cons rfl (fun K hK => ?_) AllReadyH.nil)
        refine S_append_atZ tA HL7.out.row HRS.out _ _ rfl rfl rfl rfl (by omega) (by unfold maxLen; omega) HB7.out.size ?_
        intro a2 c2 w8 o8 g8 d8
        have hap := HL7.out.app (x := ⟨x.m, x.st⟩) HM7.out o8 g8
        have hb8 := below_own HB7.out HL7.out.row g8 (Nat.le_refl _) HB7.out.size
        have hc8 := HC7.out.keep (g8.block kx HC7.out.lt (fun he => by
          obtain ⟨ad, h5, h6⟩ := Option.map_eq_some_iff.1 he.symm
          exact HNK.out ad h5 h6))
        have HS := Lib.hid (show ASK w xs (i + 1) ⟨a2, s.n + 1, c2⟩ w8 from ⟨by have := (List.getElem?_eq_some_iff.1 HX.out).1; omega, hb8, _, by rw [live_step HX.out, if_neg H3.out]; exact hap⟩)
        refine hK.out _ _ (HRK.out _ hc8) (fun hHeld => ?_)
        clear hK K hap o8 g8 d8 hb8 hc8
        try simp only [Act.put, List.getElem_toArray, List.getElem_cons_succ, List.getElem_cons_zero, List.setIfInBounds_toArray, List.set_cons_zero, List.set_cons_succ]
        refine wpAnyH_take (i := 9) (v := .slice a2 (s.n + 1) c2) rfl (by kernel_rfl) (by kernel_rfl) (by kernel_rfl) (fun _ _ _ h => h) (Or.inl ⟨by rfl, fun w h => by go_simp⟩) hHeld ?_
        try simp only [Act.put, List.getElem_toArray, List.getElem_cons_succ, List.getElem_cons_zero, List.setIfInBounds_toArray, List.set_cons_zero, List.set_cons_succ]
        refine wpAnyH_done (by kernel_rfl) ?_ _
        try simp only [Act.put, List.getElem_toArray, List.getElem_cons_succ, List.getElem_cons_zero]
        clear hHeld
        go_wp2
        exact ⟨⟨i + 1, ⟨a2, s.n + 1, c2⟩, by simp, rfl, HS.out⟩, by simp; omega⟩
set_option maxHeartbeats 16000000 in
theorem asks_false (h : SZ w base g S A) (hxl : S.their.length ≤ 1048576) :
    Calls Tryd.prog 16 #[.pointer (some ⟨g, 0, none⟩), .bool false] w fun e w' => ∃ s ls, e = .returned (.slice s.a s.n s.c) ∧ AO w' w.heap.size s (liveS S.their) ls ∧ Below w.heap.size w w' := by
  have c1 : w.cell? ⟨g, 1, none⟩ = some (.slice A.ow.a A.ow.n A.ow.c) := h.row.at_ 1
  have c3 : w.cell? ⟨g, 3, none⟩ = some (.slice A.th.a A.th.n A.th.c) := h.row.at_ 3
  have ht1 := h.th
  have hz := h.th.row
  obtain ⟨xs, hxs⟩ : ∃ xs, S.their = xs := ⟨_, rfl⟩
  obtain ⟨lt, hlt⟩ : ∃ l, A.lt = l := ⟨_, rfl⟩
  obtain ⟨⟨ta, tn, tc⟩, ht⟩ : ∃ t, A.th = t := ⟨_, rfl⟩
  rw [hxs, ht, hlt] at ht1
  rw [hxs] at hxl ⊢
  rw [ht] at c3
  simp only at c3
  have hn : xs.length = tn := ht1.n
  have HT := Lib.hid ht1
  have H0 := Lib.hid (⟨Nat.zero_le _, Below.refl _ _, [], AO.nil w w.heap.size⟩ : ASK w xs 0 SA0 w)
  clear hxs h ht1 hz ht hlt
  go_enter Tryd.func16, Tryd.ntmps16
  go_upto_region 8 with (fail)
  clear c1 c3
  go_loopw [24, 6] (fun s24 s6 wr => ∃ (i : Nat) (s : SA), s24 = .int .i64 (i : Int) ∧ s6 = .slice s.a s.n s.c ∧ ASK w xs i s wr) (fun s24 _ _ => match s24 with | .int _ x => (tn - x).toNat | _ => 0)
  case atStart => exact ⟨0, SA0, rfl, rfl, H0.out⟩
  case round =>
    clear H0
    obtain ⟨i, s, rfl, rfl, ho⟩ := hrel
    have hi := ho.le
    have O := Lib.hid ho
    clear ho
    by_cases hik : i = tn
    · subst hik
      have HX := Lib.hid (show liveS (xs.take i) = liveS xs by rw [List.take_of_length_le (by omega)])
      clear HT hn
      go_wp2
      go_ret
      obtain ⟨ls, hl⟩ := O.out.ex
      exact ⟨s, ls, rfl, by rw [← HX.out]; exact hl, O.out.b⟩
    · have hlt : i < tn := by omega
      obtain ⟨x, hx⟩ : ∃ x, xs[i]? = some x := ⟨_, List.getElem?_eq_getElem (by omega)⟩
      have htr := HT.out.keep (KB.bel O.out.b) (fun ad ha => O.out.b.block _ (HT.out.row.base_le ha).2)
      obtain ⟨q, hq, _⟩ := htr.blk hx
      obtain ⟨l, hl⟩ := htr.loc hx
      have hrg := htr.rng hx hl hq
      have hmo := htr.ms i x l hx hl
      simp only at hq
      subst hq
      obtain ⟨J, hJ⟩ : ∃ J, i * 17 = J := ⟨_, rfl⟩
      rw [hJ] at hrg
      obtain ⟨kx, hkx⟩ : ∃ y, wr.heap.size = y := ⟨_, rfl⟩
      have hrx := CR.new wr 49 askZ
      rw [hkx] at hrx
      have HRG := Lib.hid hrg
      have HMO := Lib.hid hmo
      have HJ := Lib.hid hJ
      have HRX := Lib.hid hrx
      have hwr : IntKind.i64.wrap ((i : Int) + 1) = (i : Int) + 1 := IntWalk.i64_in _ (by omega)
      have HKX := Lib.hid hkx
      have HX := Lib.hid hx
      clear hrg hmo hJ hrx hik hl htr hx hn
      go_upto_region 10 with (first
        | ((with_reducible refine gate_ix ?_); refine L_indexZ tA _ _ rfl .i64 _ i rfl rfl rfl hlt HJ.out (by rfl) ?_)
        | (refine L_loadG 49 _ rfl (by rfl) _ _ rfl _ _ HRG.out Tryd.underlying49 rfl iAsk ?_)
        | (refine L_storeRow (old := askZ) (new := akc x l) rfl 49 _ _ rfl rfl rfl HRX.out iAsk rfl rfl (akc_one x l) ?_; intro w5 hz5 hg5; have HZ5 := Lib.hid (show CR w5 kx 49 (akc x l) from hz5); have HG5 := Lib.hid hg5; clear hz5 hg5))
      have hb5 : Below wr.heap.size wr w5 := (below_alloc wr (.cells askZ.toArray 49)).grown HG5.out (by simp) (fun j hj => by cases hj; rw [HKX.out]; exact Nat.le_refl _)
      have HB5 := Lib.hid hb5
      have cst : w5.cell? ⟨kx, 16, none⟩ = some (.int .i64 (x.st : Int)) := HZ5.out.at_ 16
      clear hb5 HRG HRX HG5
      by_cases h3 : x.st = 3
      · have q3 : ((x.st : Int) != 3) = false := by rw [h3]; rfl
        have HS := Lib.hid (O.out.skip HX.out h3 HB5.out)
        clear h3 O HZ5
        go_wp2
        exact ⟨⟨i + 1, s, by simp, rfl, HS.out⟩, by simp; omega⟩
      · have q3 : ((x.st : Int) != 3) = true := by simp; omega
        have H3 := Lib.hid h3
        clear h3
        go_upto_region 11 with (fail)
        obtain ⟨ls, hls⟩ := O.out.ex
        have hls5 := hls.keep (KB.bel HB5.out) (fun ad ha => HB5.out.block _ (hls.row.base_le ha).2)
        obtain ⟨V, hV⟩ : ∃ V, w5.drew = V := ⟨_, rfl⟩
        have bV : Below w5.heap.size w5 V := by rw [← hV]; exact (Below.refl _ _).drew
        have hlsV := hls5.keep (KB.bel bV) (fun ad ha => bV.block _ (hls5.row.base_le ha).2)
        have hcp := copyOf_any V x.m l ((HMO.out.bel HB5.out (Nat.le_refl _)).bel bV (Nat.le_refl _)).mr
        unfold mgc Go.Proofs.YtokgpnkooigamaaDoor.u64 SA.v at hcp
        have HCP := Lib.hid hcp
        have HLV := Lib.hid hlsV
        have hzz := O.out.b.size
        have HBV := Lib.hid ((O.out.b.trans (HB5.out.mono hzz)).trans (bV.mono (Nat.le_trans hzz HB5.out.size)))
        have hnk : ∀ ad, s.a = some ad → ad.block ≠ kx := fun ad ha => by have := (hls.row.base_le ha).2; have := HKX.out; omega
        have HNK := Lib.hid hnk
        have HRK := Lib.hid (fun (y : World) (b : CR y kx 49 (akc x l)) => (⟨b.at_ 16, fun j v hv => b.rng j v (by unfold akc mgc Go.Proofs.YtokgpnkooigamaaDoor.u64 SA.v; rw [List.getElem?_append_left (List.getElem?_eq_some_iff.1 hv).1]; exact hv)⟩ : y.cell? ⟨kx, 16, none⟩ = some (.int .i64 (x.st : Int)) ∧ y.rangeAt kx 0 [.int .u64 (x.m.kind : Int), .int .u64 (x.m.id : Int), .int .u64 (x.m.alias : Int), .slice l.nm.a l.nm.n l.nm.c, .int .u8 (x.m.prio : Int), .int .u8 (x.m.ord : Int), .int .u64 (x.m.sg : Int), .int .u64 (x.m.so : Int), .int .u64 (x.m.eg : Int), .int .u64 (x.m.eo : Int), .bool x.m.some, .int .u64 (x.m.code : Int), .slice l.rs.a l.rs.n l.rs.c, .int .u64 (x.m.n : Int), .int .u64 (x.m.ver : Int), .slice l.vs.a l.vs.n l.vs.c]))
        have HCV := Lib.hid (HZ5.out.bel bV)
        have hheld := HRK.out w5 HZ5.out
        clear hls hls5 hlsV hcp bV hzz cst HMO HZ5 hnk
        refine wp_region_held_drew (S := fun y => y.cell? ⟨kx, 16, none⟩ = some (.int .i64 (x.st : Int)) ∧ y.rangeAt kx 0 [.int .u64 (x.m.kind : Int), .int .u64 (x.m.id : Int), .int .u64 (x.m.alias : Int), .slice l.nm.a l.nm.n l.nm.c, .int .u8 (x.m.prio : Int), .int .u8 (x.m.ord : Int), .int .u64 (x.m.sg : Int), .int .u64 (x.m.so : Int), .int .u64 (x.m.eg : Int), .int .u64 (x.m.eo : Int), .bool x.m.some, .int .u64 (x.m.code : Int), .slice l.rs.a l.rs.n l.rs.c, .int .u64 (x.m.n : Int), .int .u64 (x.m.ver : Int), .slice l.vs.a l.vs.n l.vs.c]) (by kernel_rfl) hheld (fun hHeld => ?_)
        rw [hV] at hHeld ⊢
        clear hV hheld
        refine wpAnyH_take (i := 0) (v := .slice s.a s.n s.c) rfl (by kernel_rfl) (by kernel_rfl) (by kernel_rfl) (fun _ _ _ h => h) (Or.inl ⟨by rfl, fun w h => by go_simp⟩) hHeld ?_
        try simp only [Act.put, List.getElem_toArray, List.getElem_cons_succ, List.getElem_cons_zero, List.setIfInBounds_toArray, List.set_cons_zero, List.set_cons_succ]
        refine wpAnyH_take (i := 1) (v := .pointer (some ⟨kx, 0, none⟩)) rfl (by kernel_rfl) (by kernel_rfl) (by kernel_rfl) (fun _ _ _ h => h) (Or.inl ⟨by rfl, fun w h => by go_simp⟩) hHeld ?_
        try simp only [Act.put, List.getElem_toArray, List.getElem_cons_succ, List.getElem_cons_zero, List.setIfInBounds_toArray, List.set_cons_zero, List.set_cons_succ]
        refine wpAnyH_take (i := 2) rfl (by kernel_rfl) (by kernel_rfl) (by kernel_rfl) (fun _ _ _ h => h) (yieldsIf_load_mid (by rfl) _ _ rfl _ _ rfl _ _ (fun w h => h.2) Tryd.underlying31 rfl iMsg) hHeld ?_
        try simp only [Act.put, List.getElem_toArray, List.getElem_cons_succ, List.getElem_cons_zero, List.setIfInBounds_toArray, List.set_cons_zero, List.set_cons_succ]
        refine wpAnyH_take (i := 4) (v := .pointer (some ⟨kx, 16, none⟩)) rfl (by kernel_rfl) (by kernel_rfl) (by kernel_rfl) (fun _ _ _ h => h) (Or.inl ⟨by rfl, fun w h => by go_simp⟩) hHeld ?_
        try simp only [Act.put, List.getElem_toArray, List.getElem_cons_succ, List.getElem_cons_zero, List.setIfInBounds_toArray, List.set_cons_zero, List.set_cons_succ]
        refine wpAnyH_take (i := 5) (v := .int .i64 (x.st : Int)) rfl (by kernel_rfl) (by kernel_rfl) (by kernel_rfl) (fun _ _ _ h => h) (Or.inl ⟨by rfl, fun w h => by go_simp⟩) hHeld ?_
        try simp only [Act.put, List.getElem_toArray, List.getElem_cons_succ, List.getElem_cons_zero, List.setIfInBounds_toArray, List.set_cons_zero, List.set_cons_succ]
        refine wpAnyH_ready (rs := [3]) (by kernel_rfl) (by simp) (AllReadyH.cons rfl (fun K hK => ?_) AllReadyH.nil)
        go_simp
        go_at_call 21
        refine HCP.out.mono ?_
        rintro y w6 ⟨s6, rfl, m6, b6⟩
        have HC6 := Lib.hid (HCV.out.bel b6)
        have hr6 := HRK.out w6 HC6.out
        have hb6 := HBV.out.trans (b6.mono HBV.out.size)
        have HB6 := Lib.hid hb6
        have HL6 := Lib.hid (HLV.out.keep (KB.bel b6) (fun ad ha => b6.block _ (HLV.out.row.base_le ha).2))
        have HM6 := Lib.hid (m6.mono HBV.out.size)
        refine hK.out _ _ hr6 (fun hHeld => ?_)
        clear hK K hr6 m6 b6 hb6 HCP HLV HBV HCV
        try simp only [Act.put, List.getElem_toArray, List.getElem_cons_succ, List.getElem_cons_zero, List.setIfInBounds_toArray, List.set_cons_zero, List.set_cons_succ]
        refine wpAnyH_take (i := 6) (v := .agg #[.int .u64 (x.m.kind : Int), .int .u64 (x.m.id : Int), .int .u64 (x.m.alias : Int), .slice s6.nm.a s6.nm.n s6.nm.c, .int .u8 (x.m.prio : Int), .int .u8 (x.m.ord : Int), .int .u64 (x.m.sg : Int), .int .u64 (x.m.so : Int), .int .u64 (x.m.eg : Int), .int .u64 (x.m.eo : Int), .bool x.m.some, .int .u64 (x.m.code : Int), .slice s6.rs.a s6.rs.n s6.rs.c, .int .u64 (x.m.n : Int), .int .u64 (x.m.ver : Int), .slice s6.vs.a s6.vs.n s6.vs.c, .int .i64 (x.st : Int)]) rfl (by kernel_rfl) (by kernel_rfl) (by kernel_rfl) (fun _ _ _ h => h) (Or.inl ⟨by rfl, fun w h => by go_simp⟩) hHeld ?_
        try simp only [Act.put, List.getElem_toArray, List.getElem_cons_succ, List.getElem_cons_zero, List.setIfInBounds_toArray, List.set_cons_zero, List.set_cons_succ]
        refine wpAnyH_ready (rs := [7]) (by kernel_rfl) (by simp) (AllReadyH.cons rfl (fun K hK => ?_) AllReadyH.nil)
        go_simp
        have hrs := (OW_made w6 0 49 17 (akc ⟨x.m, x.st⟩ s6).toArray 1 (Nat.zero_le _) rfl (by unfold maxLen; omega) (by simpa using akc_one ⟨x.m, x.st⟩ s6)).rs
        have hbU := below_alloc w6 (.cells (akc ⟨x.m, x.st⟩ s6).toArray 49)
        have HRS := Lib.hid hrs
        have HL7 := Lib.hid (HL6.out.keep (KB.bel hbU) (fun ad ha => hbU.block _ (HL6.out.row.base_le ha).2))
        have HM7 := Lib.hid (HM6.out.bel hbU (Nat.le_refl _))
        have HB7 := Lib.hid (HB6.out.trans (hbU.mono HB6.out.size))
        have HC7 := Lib.hid (HC6.out.bel hbU)
        refine hK.out _ _ (HRK.out _ HC7.out) (fun hHeld => ?_)
        clear hK K hrs hbU HL6 HM6 HB6 HC6
        try simp only [Act.put, List.getElem_toArray, List.getElem_cons_succ, List.getElem_cons_zero, List.setIfInBounds_toArray, List.set_cons_zero, List.set_cons_succ]
        have hwE : w6.alloc (.cells #[.int .u64 (x.m.kind : Int), .int .u64 (x.m.id : Int), .int .u64 (x.m.alias : Int), .slice s6.nm.a s6.nm.n s6.nm.c, .int .u8 (x.m.prio : Int), .int .u8 (x.m.ord : Int), .int .u64 (x.m.sg : Int), .int .u64 (x.m.so : Int), .int .u64 (x.m.eg : Int), .int .u64 (x.m.eo : Int), .bool x.m.some, .int .u64 (x.m.code : Int), .slice s6.rs.a s6.rs.n s6.rs.c, .int .u64 (x.m.n : Int), .int .u64 (x.m.ver : Int), .slice s6.vs.a s6.vs.n s6.vs.c, .int .i64 (x.st : Int)] 49) = w6.alloc (.cells (akc ⟨x.m, x.st⟩ s6).toArray 49) := rfl
        rw [hwE] at hHeld ⊢
        clear hwE
        generalize (World.alloc _ _) = w7 at *
        have hsn : s.n ≤ 1048576 := by have := HL7.out.n; have h2 := live_len (xs.take i); have h3 : (xs.take i).length ≤ xs.length := (by rw [List.length_take]; exact Nat.min_le_right _ _); omega
        refine wpAnyH_ready (rs := [8]) (by kernel_rfl) (by simp) (AllReadyH.cons rfl (fun K hK => ?_) AllReadyH.nil)
        refine S_append_atZ tA HL7.out.row HRS.out _ _ rfl rfl rfl rfl (by omega) (by unfold maxLen; omega) HB7.out.size ?_
        intro a2 c2 w8 o8 g8 d8
        have hap := HL7.out.app (x := ⟨x.m, x.st⟩) HM7.out o8 g8
        have hb8 := below_own HB7.out HL7.out.row g8 (Nat.le_refl _) HB7.out.size
        have hc8 := HC7.out.keep (g8.block kx HC7.out.lt (fun he => by
          obtain ⟨ad, h5, h6⟩ := Option.map_eq_some_iff.1 he.symm
          exact HNK.out ad h5 h6))
        have HS := Lib.hid (show ASK w xs (i + 1) ⟨a2, s.n + 1, c2⟩ w8 from ⟨by have := (List.getElem?_eq_some_iff.1 HX.out).1; omega, hb8, _, by rw [live_step HX.out, if_neg H3.out]; exact hap⟩)
        refine hK.out _ _ (HRK.out _ hc8) (fun hHeld => ?_)
        clear hK K hap o8 g8 d8 hb8 hc8
        try simp only [Act.put, List.getElem_toArray, List.getElem_cons_succ, List.getElem_cons_zero, List.setIfInBounds_toArray, List.set_cons_zero, List.set_cons_succ]
        refine wpAnyH_take (i := 9) (v := .slice a2 (s.n + 1) c2) rfl (by kernel_rfl) (by kernel_rfl) (by kernel_rfl) (fun _ _ _ h => h) (Or.inl ⟨by rfl, fun w h => by go_simp⟩) hHeld ?_
        try simp only [Act.put, List.getElem_toArray, List.getElem_cons_succ, List.getElem_cons_zero, List.setIfInBounds_toArray, List.set_cons_zero, List.set_cons_succ]
        refine wpAnyH_done (by kernel_rfl) ?_ _
        try simp only [Act.put, List.getElem_toArray, List.getElem_cons_succ, List.getElem_cons_zero]
        clear hHeld
        go_wp2
        exact ⟨⟨i + 1, ⟨a2, s.n + 1, c2⟩, by simp, rfl, HS.out⟩, by simp; omega⟩
end
end Go.Proofs.YtokgpnkooigamaaDoor
set_option maxRecDepth 100000
set_option linter.unusedVariables false
namespace Go.Proofs.YtokgpnkooigamaaDoor
open Go.RowKit
/-- the requests of the first i rounds -/
def subL (n i : Nat) : List AG := (List.range i).map (fun j => ⟨subM (2 * j) j, if j + n < i then 3 else 1⟩)
theorem subL_len (n i : Nat) : (subL n i).length = i := by simp [subL]
theorem subL_get {n i j : Nat} (h : j < i) : (subL n i)[j]? = some ⟨subM (2 * j) j, if j + n < i then 3 else 1⟩ := by
  simp [subL, h]
theorem subL_alias (n i : Nat) : (subL n i).any (aliasB i) = false := by
  rw [List.any_eq_false]
  intro x hx
  simp only [subL, List.mem_map, List.mem_range] at hx
  obtain ⟨j, hj, rfl⟩ := hx
  simp [aliasB, subM]
  omega
theorem subL_set_alias (n i : Nat) : ((subL n i).set (i - n) ⟨subM (2 * (i - n)) (i - n), 3⟩).any (aliasB i) = false := by
  rw [List.any_eq_false]
  intro x hx
  rcases List.mem_or_eq_of_mem_set hx with h | rfl
  · have := subL_alias n i
    rw [List.any_eq_false] at this
    exact this x h
  · simp [aliasB]
theorem subL_small {n i : Nat} (h : i < n) : subL n i ++ [⟨subM (2 * i) i, 1⟩] = subL n (i + 1) := by
  refine List.ext_getElem? fun j => ?_
  by_cases hj : j < i
  · rw [List.getElem?_append_left (by rw [subL_len]; exact hj), subL_get hj, subL_get (by omega), if_neg (by omega), if_neg (by omega)]
  · by_cases he : j = i
    · subst he
      rw [List.getElem?_append_right (by rw [subL_len]; exact Nat.le_refl _), subL_len, Nat.sub_self, subL_get (by omega), if_neg (by omega)]
      rfl
    · rw [List.getElem?_eq_none (by simp [subL_len]; omega), List.getElem?_eq_none (by rw [subL_len]; omega)]
theorem subL_big {n i : Nat} (h : n ≤ i) (h0 : 0 < n) : ((subL n i).set (i - n) ⟨subM (2 * (i - n)) (i - n), 3⟩) ++ [⟨subM (2 * i) i, 1⟩] = subL n (i + 1) := by
  refine List.ext_getElem? fun j => ?_
  by_cases hj : j < i
  · rw [List.getElem?_append_left (by rw [List.length_set, subL_len]; exact hj), subL_get (by omega)]
    by_cases hd : j = i - n
    · subst hd
      rw [List.getElem?_set_self (by rw [subL_len]; exact hj), if_pos (by omega)]
    · rw [List.getElem?_set_ne (fun h => hd h.symm), subL_get hj]
      by_cases hc : j + n < i
      · rw [if_pos hc, if_pos (by omega)]
      · rw [if_neg hc, if_neg (by omega)]
  · by_cases he : j = i
    · subst he
      rw [List.getElem?_append_right (by rw [List.length_set, subL_len]; exact Nat.le_refl _), List.length_set, subL_len, Nat.sub_self, subL_get (by omega), if_neg (by omega)]
      rfl
    · rw [List.getElem?_eq_none (by simp [subL_len]; omega), List.getElem?_eq_none (by rw [subL_len]; omega)]
theorem range_ge (r : Nat) : ∀ m, ((List.range m).filter (fun j => decide (r ≤ j))).length = m - r
  | 0 => by simp
  | m + 1 => by
    rw [List.range_succ, List.filter_append, List.length_append, range_ge r m]
    by_cases h : r ≤ m
    · simp [h]; omega
    · simp [h]; omega
theorem subL_live (n r : Nat) : (liveS (subL n (n + r))).length = n := by
  have h : liveS (subL n (n + r)) = ((List.range (n + r)).filter (fun j => decide (r ≤ j))).map (fun j => (⟨subM (2 * j) j, if j + n < n + r then 3 else 1⟩ : AG)) := by
    unfold liveS subL
    rw [List.filter_map]
    congr 1
    refine List.filter_congr fun j _ => ?_
    simp only [Function.comp]
    by_cases h : r ≤ j
    · rw [if_neg (by omega)]; simp [h]
    · rw [if_pos (by omega)]; simp [h]
  rw [h, List.length_map, range_ge]; omega
def aS (L : List AG) (o : Nat) : SS := ⟨false, L, o, [], 5, [], true, 0⟩
def bS (L : List AG) (o : Nat) : SS := ⟨true, [], 5, L, o, [], true, 0⟩
def unsM (id : Nat) : MG := ⟨10, id, 0, [], 0, 0, 0, 0, 0, 0, false, 0, [], 0, 0, []⟩
theorem right_sub : ∀ i, i < 64 → rightM (subM 0 i) = true := by decide +kernel
theorem right_sub2 : ∀ i, i < 64 → rightM (subM (2 * i) i) = true := by decide +kernel
theorem right_uns : ∀ i, i < 64 → rightM (unsM (2 * i)) = true := by decide +kernel
theorem right_max : ∀ i, i < 64 → rightM (mNV 21 i 0) = true := by decide +kernel
theorem right_cli5 : rightM (cliM [1] 5) = true := by decide +kernel
/-- two sessions that lie apart -/
structure TP (w : World) (g gb : Nat) (Sa Sb : SS) (wr : World) : Prop where
  b : Below w.heap.size w wr
  wg : w.heap.size ≤ g
  gw : g ≤ wr.heap.size
  ex : ∃ A B, SZ wr g g Sa A ∧ SZ wr g gb Sb B ∧ ∀ x, FP g A x → ¬ FP gb B x
section
variable {w wr : World} {g gb : Nat} {Sa Sb : SS} {f : FuncId} {args : Array Value}
theorem TP.a (h : TP w g gb Sa Sb wr) {R : Ending → World → Prop} {Sa' : SS} (hc : ∀ A, SZ wr g g Sa A → Calls Tryd.prog f args wr fun e w' => R e w' ∧ ∃ A', SZ w' g g Sa' A' ∧ SK wr g A w' A') :
    Calls Tryd.prog f args wr fun e w' => R e w' ∧ TP w g gb Sa' Sb w' := by
  obtain ⟨A, B, hA, hB, hd⟩ := h.ex
  refine (hc A hA).mono fun e w' ⟨h1, A', h2, h3⟩ => ⟨h1, h.b.trans ((h3.below hA h.gw).mono h.wg), h.wg, Nat.le_trans h.gw h3.size, A', B, h2, hB.keep (h3.kb hA) (fun b hf => h3.keep b (hB.fp_ge hf).2 (fun hfa => hd b hfa hf)), fun x hx hy => ?_⟩
  rcases h3.fp x hx with h4 | h4
  · exact hd x h4 hy
  · have := (hB.fp_ge hy).2; omega
theorem TP.bb (h : TP w g gb Sa Sb wr) {R : Ending → World → Prop} {Sb' : SS} (hc : ∀ B, SZ wr g gb Sb B → Calls Tryd.prog f args wr fun e w' => R e w' ∧ ∃ B', SZ w' g gb Sb' B' ∧ SK wr gb B w' B') :
    Calls Tryd.prog f args wr fun e w' => R e w' ∧ TP w g gb Sa Sb' w' := by
  obtain ⟨A, B, hA, hB, hd⟩ := h.ex
  refine (hc B hB).mono fun e w' ⟨h1, B', h2, h3⟩ => ⟨h1, h.b.trans ((h3.below hB h.gw).mono h.wg), h.wg, Nat.le_trans h.gw h3.size, A, B', hA.keep (h3.kb hB) (fun b hf => h3.keep b (hA.fp_ge hf).2 (fun hfb => hd b hf hfb)), h2, fun x hx hy => ?_⟩
  rcases h3.fp x hy with h4 | h4
  · exact hd x hx h4
  · have := (hA.fp_ge hx).2; omega
theorem TP.bel {w' : World} (h : TP w g gb Sa Sb wr) (hb : Below wr.heap.size wr w') : TP w g gb Sa Sb w' := by
  obtain ⟨A, B, hA, hB, hd⟩ := h.ex
  exact ⟨h.b.trans (hb.mono h.b.size), h.wg, Nat.le_trans h.gw hb.size, A, B, hA.bel hb, hB.bel hb, hd⟩
theorem TP.cast {Sa' Sb' : SS} (h : TP w g gb Sa Sb wr) (h1 : Sa = Sa') (h2 : Sb = Sb') : TP w g gb Sa' Sb' wr := by subst h1 h2; exact h
theorem out_one {w : World} {base g : Nat} {S : SS} {A : SL} (h : SZ w base g S A) {x : MG} (ho : S.out = [x]) : Calls Tryd.prog 12 #[.pointer (some ⟨g, 0, none⟩)] w fun e w' => (∃ q c l, e = .returned (.slice (some ⟨q, 0, none⟩) 1 c) ∧ w'.rangeAt q 0 (mgc x l) ∧ MR w' x l) ∧ ∃ A', SZ w' base g { S with out := [] } A' ∧ SK w g A w' A' := by
  refine (out_any h).mono fun e w' ⟨h1, h2, h3, h4⟩ => ⟨?_, _, h2, h3⟩
  have hx : S.out[0]? = some x := by rw [ho]; rfl
  obtain ⟨q, hq, _⟩ := h4.blk hx
  obtain ⟨l, hl⟩ := h4.loc hx
  have hr := h4.rng hx hl hq
  rw [Nat.zero_mul] at hr
  have hn := h4.n
  rw [ho] at hn
  refine ⟨q, A.ou.c, l, ?_, hr, (h4.ms 0 x l hx hl).mr⟩
  rw [h1]; unfold SA.v; rw [hq, ← hn]; rfl
end
section
variable {w wr : World} {g gb i o X : Nat} {L : List AG} {s : ML} {Sa Sb : SS}
theorem tp_out_a (h : TP w g gb Sa Sb wr) {x : MG} (ho : Sa.out = [x]) : Calls Tryd.prog 12 #[.pointer (some ⟨g, 0, none⟩)] wr fun e w' => (∃ q c l, e = .returned (.slice (some ⟨q, 0, none⟩) 1 c) ∧ w'.rangeAt q 0 (mgc x l) ∧ MR w' x l) ∧ TP w g gb { Sa with out := [] } Sb w' :=
  h.a fun A hA => out_one hA ho
theorem tp_out_b (h : TP w g gb Sa Sb wr) {x : MG} (ho : Sb.out = [x]) : Calls Tryd.prog 12 #[.pointer (some ⟨gb, 0, none⟩)] wr fun e w' => (∃ q c l, e = .returned (.slice (some ⟨q, 0, none⟩) 1 c) ∧ w'.rangeAt q 0 (mgc x l) ∧ MR w' x l) ∧ TP w g gb Sa { Sb with out := [] } w' :=
  h.bb fun A hA => out_one hA ho
theorem tp_cli {n : Nat} (h : TP w g gb Sa ⟨true, [], 0, [], n, [], false, 0⟩ wr) (hK : KA w) (hn : n ≤ 1000) (hm : MR wr (cliM [1] 5) s) :
    Calls Tryd.prog 9 #[.pointer (some ⟨gb, 0, none⟩), .agg (mgc (cliM [1] 5) s).toArray] wr fun e w' => e = .returned (.int .u64 0) ∧ TP w g gb Sa ⟨true, [], 5, [], n, [mNV 33 n 1], true, 0⟩ w' :=
  h.bb fun B hB => (Hear_s32 wr hB hm (hK.bel h.b (Nat.le_refl _)) h.gw rfl (by simp) (by simp) right_cli5 rfl rfl rfl (by simp only; omega) rfl).mono fun e w' ⟨h1, A', h2, h3⟩ => ⟨h1, A', h2.cast (by simp [cliM]), h3⟩
theorem tp_srv {n : Nat} (h : TP w g gb ⟨false, [], 0, [], 5, [], false, 0⟩ Sb wr) (hK : KA w) (hn : n ≤ 1000) (hm : MR wr (mNV 33 n 1) s) :
    Calls Tryd.prog 9 #[.pointer (some ⟨g, 0, none⟩), .agg (mgc (mNV 33 n 1) s).toArray] wr fun e w' => e = .returned (.int .u64 0) ∧ TP w g gb (aS [] n) Sb w' :=
  h.a fun A hA => (Hear_s33 hA hm (hK.bel h.b (Nat.le_refl _)) h.gw rfl (by simp) (by simp) (right_33 n 1 (by omega) (by omega)) rfl rfl rfl rfl).mono fun e w' ⟨h1, A', h2, h3⟩ => ⟨h1, A', h2.cast (by simp [aS, mNV]; omega), h3⟩
theorem tp_credit (h : TP w g gb (aS L o) Sb wr) (hK : KA w) (hl : L.length = i) (hi : i < 64) (ha : L.any (aliasB i) = false) (ho : o ≤ i) (hm : MR wr (subM 0 i) s) :
    Calls Tryd.prog 13 #[.pointer (some ⟨g, 0, none⟩), .agg (mgc (subM 0 i) s).toArray] wr fun e w' => e = .returned (.tuple #[.agg Z16.toArray, .int .i64 12]) ∧ TP w g gb (aS L o) Sb w' :=
  h.a fun A hA => (Say_credit hA hm (hK.bel h.b (Nat.le_refl _)) h.gw rfl (right_sub i hi) rfl rfl ha rfl (by simp [aS]; omega) (by simp [aS]; omega)).mono fun e w' ⟨h1, h2⟩ => ⟨h1, A, hA.bel h2, SK.bel h2⟩
theorem tp_say (h : TP w g gb (aS L o) Sb wr) (hK : KA w) (hl : L.length = i) (hi : i < 64) (ha : L.any (aliasB i) = false) (ho : i < o) (hX : 2 * i = X) (hm : MR wr (subM 0 i) s) :
    Calls Tryd.prog 13 #[.pointer (some ⟨g, 0, none⟩), .agg (mgc (subM 0 i) s).toArray] wr fun e w' => (∃ s', e = .returned (.tuple #[.agg (mgc (subM X i) s').toArray, .int .i64 0]) ∧ MR w' (subM X i) s') ∧ TP w g gb (aS (L ++ [⟨subM X i, 1⟩]) o) Sb w' := by
  have hX2 : L.length * 2 = X := by omega
  refine h.a fun A hA => (Say_go hA hm (hK.bel h.b (Nat.le_refl _)) h.gw rfl (right_sub i hi) true rfl (fun _ => rfl) (by simp [subM]) (by simp [subM]) (by simp [subM]) (S1 := aS (L ++ [⟨subM X i, 1⟩]) o) (m1 := subM X i) (fun W b s2 hmo => ?_) (fun W k s2 z1 r1 m1 b1 f1 => ?_)).mono fun e w' ⟨s', A', h1, h2, h3, h4⟩ => ⟨⟨s', h1, h2.mr⟩, A', h3, h4⟩
  · exact ⟨⟨hmo.b.1, by simp only [subM]; omega, hmo.b.3, hmo.b.4, hmo.b.5, hmo.b.6, hmo.b.7, hmo.b.8, hmo.b.9, hmo.b.10, hmo.b.11, hmo.b.12⟩, hmo.nm, hmo.rs, hmo.vs, hmo.l1, hmo.l2, hmo.l3⟩
  · have hh := say_sub z1 r1 m1 f1 b1 rfl rfl ha rfl (by simp [aS]; omega) (by simp [aS]; omega)
    refine hh.mono fun e w' ⟨h1, A', W0, h2, h3, h4, h5⟩ => ⟨h1, A', ?_, ?_, SK1.of z1 r1 f1 h4 h5⟩
    · rw [show (aS L o).own.length * 2 = X from hX2] at h2; exact h2
    · rw [show (aS L o).own.length * 2 = X from hX2] at h3; exact h3
theorem tp_uns {D x : Nat} (h : TP w g gb (aS L o) Sb wr) (hK : KA w) (hl : L.length ≤ 64) (hD : D < 64) (hx : L[D]? = some ⟨subM (2 * D) x, 1⟩) (hX : 2 * D = X) (hm : MR wr (unsM X) s) :
    Calls Tryd.prog 13 #[.pointer (some ⟨g, 0, none⟩), .agg (mgc (unsM X) s).toArray] wr fun e w' => (∃ s', e = .returned (.tuple #[.agg (mgc (unsM X) s').toArray, .int .i64 0]) ∧ MR w' (unsM X) s') ∧ TP w g gb (aS (L.set D ⟨subM (2 * D) x, 3⟩) o) Sb w' := by
  subst hX
  refine h.a fun A hA => (Say_go hA hm (hK.bel h.b (Nat.le_refl _)) h.gw rfl (right_uns D hD) false rfl (fun h => by cases h) (by simp [unsM]) (by simp [unsM]) (by simp [unsM]) (S1 := aS (L.set D ⟨subM (2 * D) x, 3⟩) o) (m1 := unsM (2 * D)) (fun W b s2 hmo => hmo) (fun W k s2 z1 r1 m1 b1 f1 => ?_)).mono fun e w' ⟨s', A', h1, h2, h3, h4⟩ => ⟨⟨s', h1, h2.mr⟩, A', h3, h4⟩
  have hf : findS (aS L o).own (unsM (2 * D)).id 3 = some D := by
    have e2 : 2 * D / 2 = D := by omega
    simp only [findS, aS, unsM, e2, hx]
    rw [if_pos ⟨rfl, rfl⟩]
  refine (say_unsub z1 r1 rfl rfl (by simp [aS]; omega) hf hx (by simp)).mono fun e w' ⟨h1, h2, h3⟩ => ⟨h1, A, h2, r1.keep (h3.keep k r1.lt f1), h3.sk1 z1⟩
theorem tp_hear (h : TP w g gb Sa (bS L o) wr) (hK : KA w) (hl : L.length = i) (hi : i < 64) (ha : L.any (aliasB i) = false) (ho : i < o) (hX : 2 * i = X) (hm : MR wr (subM X i) s) :
    Calls Tryd.prog 9 #[.pointer (some ⟨gb, 0, none⟩), .agg (mgc (subM X i) s).toArray] wr fun e w' => e = .returned (.int .u64 0) ∧ TP w g gb Sa (bS (L ++ [⟨subM X i, 1⟩]) o) w' := by
  subst hX
  have has : askedS (bS L o) (subM (2 * i) i) = (bS (L ++ [⟨subM (2 * i) i, 1⟩]) o, 0) := by
    unfold askedS nextS
    rw [if_neg (by simp [bS, subM, hl]; omega), if_neg (by simp [bS, hl]; omega), if_neg (by
      rintro ⟨_, h2⟩
      rw [show (bS L o).their = L from rfl, show (subM (2 * i) i).alias = i from rfl, ha] at h2
      cases h2)]
    rfl
  refine h.bb fun B hB => (Hear_req wr hB hm (hK.bel h.b (Nat.le_refl _)) h.gw rfl (by simp [bS]; omega) (by simp [bS]) (right_sub2 i hi) (by simp [setupB, subM]) rfl rfl).mono fun e w' ⟨h1, A', h2, h3⟩ => ?_
  rw [has] at h1 h2
  exact ⟨h1, A', h2, h3⟩
theorem tp_end {D x : Nat} (h : TP w g gb Sa (bS L o) wr) (hK : KA w) (hl : L.length ≤ 64) (hD : D < 64) (ho : o < 1000) (hx : L[D]? = some ⟨subM (2 * D) x, 1⟩) (hX : 2 * D = X) (hm : MR wr (unsM X) s) :
    Calls Tryd.prog 9 #[.pointer (some ⟨gb, 0, none⟩), .agg (mgc (unsM X) s).toArray] wr fun e w' => e = .returned (.int .u64 0) ∧ TP w g gb Sa { bS (L.set D ⟨subM (2 * D) x, 3⟩) (o + 1) with out := [mNV 21 (o + 1) 0] } w' := by
  subst hX
  have hf : findS (bS L o).their (unsM (2 * D)).id 3 = some D := by
    have e2 : 2 * D / 2 = D := by omega
    simp only [findS, bS, unsM, e2, hx]
    rw [if_pos ⟨rfl, rfl⟩]
  have hov : overS (bS L o) D = { bS (L.set D ⟨subM (2 * D) x, 3⟩) (o + 1) with out := [mNV 21 (o + 1) 0] } := by
    have hlt : o < 1152921504606846976 := by omega
    simp [overS, bS, hx, hlt]
  refine h.bb fun B hB => (Hear_go hB hm (hK.bel h.b (Nat.le_refl _)) h.gw rfl (c := 0) (S1 := overS (bS L o) D) (fun w1 s1 h1 m1 k1 b1 => hear_end_yes h1 m1 k1 (by simp [bS]; omega) (by simp [bS]) b1 (right_uns D hD) (by simp [setupB, unsM]) rfl rfl rfl 3 rfl (by omega) D ⟨subM (2 * D) x, 1⟩ hf hx)).mono fun e w' ⟨h1, A', h2, h3⟩ => ?_
  rw [hov] at h2
  exact ⟨h1, A', h2, h3⟩
theorem tp_max (h : TP w g gb (aS L o) Sb wr) (hK : KA w) (hl : L.length ≤ 64) (ho : o + 1 < 64) (hm : MR wr (mNV 21 (o + 1) 0) s) :
    Calls Tryd.prog 9 #[.pointer (some ⟨g, 0, none⟩), .agg (mgc (mNV 21 (o + 1) 0) s).toArray] wr fun e w' => e = .returned (.int .u64 0) ∧ TP w g gb (aS L (o + 1)) Sb w' := by
  refine h.a fun A hA => (Hear_go hA hm (hK.bel h.b (Nat.le_refl _)) h.gw rfl (c := 0) (S1 := aS L (o + 1)) (fun w1 s1 h1 m1 k1 b1 => ?_)).mono fun e w' ⟨h1, A', h2, h3⟩ => ⟨h1, A', h2, h3⟩
  refine (hear_max_yes h1 m1 k1 (by simp [aS]) (by simp [aS]) b1 (right_max (o + 1) ho) (by simp [setupB, mNV]) rfl rfl rfl rfl rfl (by simp [aS, mNV]; omega)).mono fun e w' ⟨h4, A', h5, h6⟩ => ⟨h4, A', ?_, h6⟩
  rw [show min (mNV 21 (o + 1) 0).n 1152921504606846976 = o + 1 by simp [mNV]; omega] at h5
  exact h5
end
end Go.Proofs.YtokgpnkooigamaaDoor
set_option maxRecDepth 100000
set_option linter.unusedVariables false
namespace Go.Proofs.YtokgpnkooigamaaDoor
open Go.RowKit
theorem New_c (w : World) : Calls Tryd.prog 8 #[.bool false, .int .u64 5] w fun e w' => e = .returned (.pointer (some ⟨w.heap.size, 0, none⟩)) ∧ (∃ A, SZ w' w.heap.size w.heap.size ⟨false, [], 0, [], 5, [cliM [1] 5], false, 0⟩ A) ∧ Below w.heap.size w w' := new_cli w 5
theorem New_s (w : World) (n : Nat) (hn : n ≤ 1000) : Calls Tryd.prog 8 #[.bool true, .int .u64 (n : Int)] w fun e w' => e = .returned (.pointer (some ⟨w.heap.size, 0, none⟩)) ∧ SZ w' w.heap.size w.heap.size ⟨true, [], 0, [], n, [], false, 0⟩ ⟨SA0, SA0, SA0, [], [], []⟩ ∧ Below w.heap.size w w' :=
  (new_srv w n).mono fun e w' ⟨h1, h2, h3⟩ => ⟨h1, by rw [show newS true n = ⟨true, [], 0, [], n, [], false, 0⟩ by simp [newS]; omega] at h2; exact h2, h3⟩
theorem TP.start {w w1 w2 w3 : World} {n : Nat} {Sa : SS} (b1 : Below w.heap.size w w1) (hz : ∃ A, SZ w2 w1.heap.size w1.heap.size Sa A) (b2 : Below w1.heap.size w1 w2) (h3 : SZ w3 w2.heap.size w2.heap.size ⟨true, [], 0, [], n, [], false, 0⟩ ⟨SA0, SA0, SA0, [], [], []⟩) (b3 : Below w2.heap.size w2 w3) :
    TP w w1.heap.size w2.heap.size Sa ⟨true, [], 0, [], n, [], false, 0⟩ w3 := by
  obtain ⟨A, hA⟩ := hz
  refine ⟨(b1.trans (b2.mono b1.size)).trans (b3.mono (Nat.le_trans b1.size b2.size)), b1.size, Nat.le_trans b2.size b3.size, A, _, hA.bel b3, ⟨b2.size, h3.row, AO.nil _ _, AO.nil _ _, QO.nil _ _, fun x y h => by cases h⟩, fun x hx hy => ?_⟩
  have h5 := (hA.fp_ge hx).2
  rcases hy with h | ⟨ad, h, _⟩ | ⟨ad, h, _⟩ | ⟨ad, h, _⟩
  · omega
  · cases h
  · cases h
  · cases h
theorem sub_0 (w : World) (i : Nat) (hi : i < 64) : Calls Tryd.prog 15 #[.int .u64 0, .int .u64 (i : Int)] w fun e w' => ∃ s, e = .returned (.agg (mgc (subM 0 i) s).toArray) ∧ MR w' (subM 0 i) s ∧ Below w.heap.size w w' := subscribe_any w 0 i (by omega) (by omega)
theorem mr_uns (w : World) (E : Nat) (hE : E < 1000) : MR w (unsM E) ML0 :=
  ⟨⟨by simp [unsM], by simp only [unsM]; omega, by simp [unsM], by simp [unsM], by simp [unsM], by simp [unsM], by simp [unsM], by simp [unsM], by simp [unsM], by simp [unsM], by simp [unsM], by simp [unsM]⟩, RS_nil _ _, RS_nil _ _, RS_nil _ _, by simp [ML0, SA0], by simp [ML0, SA0], by simp [ML0, SA0]⟩
theorem tp_asks_a {w wr : World} {g gb : Nat} {L : List AG} {o : Nat} {Sb : SS} (h : TP w g gb (aS L o) Sb wr) (hl : L.length ≤ 1048576) :
    Calls Tryd.prog 16 #[.pointer (some ⟨g, 0, none⟩), .bool true] wr fun e w' => (∃ a c, e = .returned (.slice a (liveS L).length c)) ∧ TP w g gb (aS L o) Sb w' :=
  h.a fun A hA => (asks_true hA hl).mono fun e w' ⟨s, ls, h1, h2, h3⟩ => ⟨⟨s.a, s.c, by rw [h1, ← h2.n]; rfl⟩, A, hA.bel h3, SK.bel h3⟩
theorem tp_asks_b {w wr : World} {g gb : Nat} {L : List AG} {o : Nat} {Sa : SS} (h : TP w g gb Sa (bS L o) wr) (hl : L.length ≤ 1048576) :
    Calls Tryd.prog 16 #[.pointer (some ⟨gb, 0, none⟩), .bool false] wr fun e w' => (∃ a c, e = .returned (.slice a (liveS L).length c)) ∧ TP w g gb Sa (bS L o) w' :=
  h.bb fun A hA => (asks_false hA hl).mono fun e w' ⟨s, ls, h1, h2, h3⟩ => ⟨⟨s.a, s.c, by rw [h1, ← h2.n]; rfl⟩, A, hA.bel h3, SK.bel h3⟩
set_option maxHeartbeats 32000000 in
theorem talkLets_walk (w : World) (x y : Nat) (hx : x < 256) (hy : y < 256) (hK : KA w) :
    Calls Tryd.prog 5 #[.int .u8 (x : Int), .int .u8 (y : Int)] w fun e w' => e = .returned (.bool true) ∧ Below w.heap.size w w' := by
  have HA := Lib.hid (awake_any w hK)
  have HK := Lib.hid hK
  obtain ⟨n, hn⟩ : ∃ n, x % 20 = n := ⟨_, rfl⟩
  obtain ⟨r, hr⟩ : ∃ r, y % 20 = r := ⟨_, rfl⟩
  obtain ⟨N, hN⟩ : ∃ N, n + r = N := ⟨_, rfl⟩
  have hn20 : n < 20 := by omega
  have HX := Lib.hid (show (x : Int) % 20 = (n : Int) by omega)
  have HY := Lib.hid (show (n : Int) + (y : Int) % 20 = (N : Int) by omega)
  have HNr := Lib.hid hN
  have hN40 : N < 40 := by omega
  clear hK hn hr hN hx hy
  go_enter Tryd.func5, Tryd.ntmps5
  go_upto_region 4 with (go_at_call 7; refine HA.out.mono ?_; rintro y w1 ⟨rfl, b1⟩; have B1 := Lib.hid b1; clear b1)
  rw [HX.out]
  have HNC := Lib.hid (New_c w1)
  have hst := fun (w2 w3 : World) (h1 : ∃ A, SZ w2 w1.heap.size w1.heap.size ⟨false, [], 0, [], 5, [cliM [1] 5], false, 0⟩ A) (h2 : Below w1.heap.size w1 w2) h3 h4 => TP.start (n := n) (w3 := w3) B1.out h1 h2 h3 h4
  obtain ⟨g, hg⟩ : ∃ g, w1.heap.size = g := ⟨_, rfl⟩
  rw [hg] at HNC hst
  have HST := Lib.hid hst
  clear hst HA hg
  go_upto_region 5 with (first
    | (go_at_call 8; (with_reducible refine HNC.out.mono ?_); rintro y w2 ⟨rfl, z2, b2⟩; have HZ2 := Lib.hid z2; have HB2 := Lib.hid b2; have HNS := Lib.hid (New_s w2 n (by omega)); clear z2 b2)
    | (go_at_call 8; (with_reducible refine HNS.out.mono ?_); rintro y w3 ⟨rfl, z3, b3⟩; have P3 := Lib.hid (HST.out w2 w3 HZ2.out HB2.out z3 b3); clear z3 b3))
  obtain ⟨gb, hgb⟩ : ∃ q, w2.heap.size = q := ⟨_, rfl⟩
  rw [hgb] at P3 ⊢
  clear HNC HST HNS HZ2 HB2 hgb B1
  have HOA := Lib.hid (tp_out_a P3.out rfl)
  go_upto_region 6 with (go_at_call 12; refine HOA.out.mono ?_; rintro y w4 ⟨⟨q, qc, l, rfl, hrg, hmr⟩, p4⟩; have HRG := Lib.hid hrg; have HMR := Lib.hid hmr; have P4 := Lib.hid p4; clear hrg hmr p4)
  clear HOA P3
  obtain ⟨kx, hkx⟩ : ∃ y, w4.heap.size = y := ⟨_, rfl⟩
  have hrx := CR.new w4 31 Z16
  rw [hkx] at hrx
  have HRX := Lib.hid hrx
  have HRXk := Lib.hid hkx
  clear hrx
  refine wp_loop_rounds 2 ?_
  rw [rounds_succ]
  go_upto_region 8 with (first
    | ((with_reducible refine gate_ix ?_); refine L_indexZ tQ _ _ rfl .i64 _ 0 rfl rfl rfl (by omega) rfl (by rfl) ?_)
    | (refine L_loadG 31 _ rfl (by rfl) _ _ rfl _ _ HRG.out Tryd.underlying31 rfl iMsg ?_)
    | (refine L_storeRow (old := Z16) (new := mgc (cliM [1] 5) l) rfl 31 _ _ rfl rfl rfl HRX.out iMsg rfl rfl (mgc_one (cliM [1] 5) l) ?_; intro w5 hz hg; have HZ5 := Lib.hid (show CR w5 kx 31 (mgc (cliM [1] 5) l) from hz); have HG5 := Lib.hid hg; clear hz hg))
  have hb : Below w4.heap.size w4 w5 := (below_alloc w4 (.cells Z16.toArray 31)).grown HG5.out (by simp) (fun j hj => by cases hj; rw [HRXk.out]; exact Nat.le_refl _)
  have HB5 := Lib.hid hb
  clear hb HRX HG5
  have HRG5 := Lib.hid HZ5.out.rng
  have HHR := Lib.hid (tp_cli (P4.out.bel HB5.out) HK.out (by omega) (HMR.out.bel HB5.out (Nat.le_refl _)))
  clear HRG HMR P4
  go_wp2_with (first
    | (refine L_loadG 31 _ rfl (by rfl) _ _ rfl _ _ HRG5.out Tryd.underlying31 rfl iMsg ?_)
    | (go_at_call 9; refine HHR.out.mono ?_; rintro y w6 ⟨rfl, p6⟩; have P6 := Lib.hid p6; clear p6))
  rw [rounds_succ]
  go_upto_region 10 with (fail)
  clear HHR HRG5 HZ5 HB5
  have HOB := Lib.hid (tp_out_b P6.out rfl)
  go_upto_region 11 with (go_at_call 12; refine HOB.out.mono ?_; rintro y w7 ⟨⟨q2, qc2, l2, rfl, hrg, hmr⟩, p7⟩; have HRG := Lib.hid hrg; have HMR := Lib.hid hmr; have P7 := Lib.hid p7; clear hrg hmr p7)
  clear HOB P6
  obtain ⟨ky, hky⟩ : ∃ y, w7.heap.size = y := ⟨_, rfl⟩
  have hrx := CR.new w7 31 Z16
  rw [hky] at hrx
  have HRY := Lib.hid hrx
  have HRYk := Lib.hid hky
  clear hrx
  refine wp_loop_rounds 2 ?_
  rw [rounds_succ]
  go_upto_region 13 with (first
    | ((with_reducible refine gate_ix ?_); refine L_indexZ tQ _ _ rfl .i64 _ 0 rfl rfl rfl (by omega) rfl (by rfl) ?_)
    | (refine L_loadG 31 _ rfl (by rfl) _ _ rfl _ _ HRG.out Tryd.underlying31 rfl iMsg ?_)
    | (refine L_storeRow (old := Z16) (new := mgc (mNV 33 n 1) l2) rfl 31 _ _ rfl rfl rfl HRY.out iMsg rfl rfl (mgc_one (mNV 33 n 1) l2) ?_; intro w8 hz hg; have HZ8 := Lib.hid (show CR w8 ky 31 (mgc (mNV 33 n 1) l2) from hz); have HG8 := Lib.hid hg; clear hz hg))
  have hb : Below w7.heap.size w7 w8 := (below_alloc w7 (.cells Z16.toArray 31)).grown HG8.out (by simp) (fun j hj => by cases hj; rw [HRYk.out]; exact Nat.le_refl _)
  have HB8 := Lib.hid hb
  clear hb HRY HG8
  have HRG8 := Lib.hid HZ8.out.rng
  have HHR := Lib.hid (tp_srv (P7.out.bel HB8.out) HK.out (by omega) (HMR.out.bel HB8.out (Nat.le_refl _)))
  clear HRG HMR P7
  go_wp2_with (first
    | (refine L_loadG 31 _ rfl (by rfl) _ _ rfl _ _ HRG8.out Tryd.underlying31 rfl iMsg ?_)
    | (go_at_call 9; refine HHR.out.mono ?_; rintro y w9 ⟨rfl, p9⟩; have P9 := Lib.hid p9; clear p9))
  rw [rounds_succ]
  go_upto_region 16 with (fail)
  rw [HY.out]
  have P10 := Lib.hid (show TP w g gb (aS (subL n 0) (max n 0)) (bS (subL n 0) (max n 0)) w9 from P9.out.cast (by simp [subL]) (by simp [bS, subL]))
  clear HHR HRG8 HZ8 HB8 P9 HX HY
  go_loopw [55] (fun s55 wr => ∃ i : Nat, s55 = .int .u64 (i : Int) ∧ i ≤ N ∧ TP w g gb (aS (subL n i) (max n i)) (bS (subL n i) (max n i)) wr) (fun s55 _ => match s55 with | .int _ x => (N - x).toNat | _ => 0)
  case atStart => exact ⟨0, rfl, Nat.zero_le _, P10.out⟩
  case round =>
    clear P10 w9
    obtain ⟨i, rfl, hi, ho⟩ := hrel
    have P := Lib.hid ho
    clear ho
    by_cases hik : i = N
    · subst hik
      have hli : (subL n i).length ≤ 1048576 := by rw [subL_len]; omega
      have hlv : (liveS (subL n i)).length = n := by rw [← HNr.out]; exact subL_live n r
      have HLV := Lib.hid hlv
      have haa := tp_asks_a P.out hli
      rw [hlv] at haa
      have HAA := Lib.hid haa
      have HBB := Lib.hid (fun (y : World) (h : TP w g gb (aS (subL n i) (max n i)) (bS (subL n i) (max n i)) y) => by have hq := tp_asks_b h hli; rw [hlv] at hq; exact hq)
      clear hlv hli haa
      go_wp2_with (first
        | (go_at_call 16; (with_reducible refine HAA.out.mono ?_); rintro y wA ⟨⟨aa, ac, rfl⟩, pA⟩; have PA := Lib.hid pA; have HAB := Lib.hid (HBB.out wA pA); clear pA)
        | (go_at_call 16; (with_reducible refine HAB.out.mono ?_); rintro y wB ⟨⟨ba, bc, rfl⟩, pB⟩))
      go_ret
      exact ⟨rfl, pB.b⟩
    · have hlt : i < N := by omega
      have hwr : IntKind.u64.wrap ((i : Int) + 1) = (i : Int) + 1 := IntWalk.u64_in _ (by omega)
      have hi64 : i < 64 := by omega
      by_cases hin : i < n
      · have qin : decide (n ≤ i) = false := decide_eq_false (by omega)
        have P0 := Lib.hid (show TP w g gb (aS (subL n i) n) (bS (subL n i) n) wr from P.out.cast (by rw [Nat.max_eq_left (by omega)]) (by rw [Nat.max_eq_left (by omega)]))
        have hl : (subL n i).length = i := subL_len n i
        have ha := subL_alias n i
        have hnx : subL n i ++ [⟨subM (2 * i) i, 1⟩] = subL n (i + 1) := subL_small hin
        have HMX0 := Lib.hid (show n = max n (i + 1) by omega)
        obtain ⟨L, hL⟩ : ∃ L, subL n i = L := ⟨_, rfl⟩
        rw [hL] at P0 hl ha hnx
        have HNX := Lib.hid hnx
        have HAL := Lib.hid ha
        have HLL := Lib.hid hl
        clear P hL hnx ha hl
        go_upto_region 30 with (fail)
        obtain ⟨X, hX⟩ : ∃ X, 2 * i = X := ⟨_, rfl⟩
        have qx : ((X : Int) != 2 * (i : Int)) = false := by simp; omega
        have hnx := HNX.out
        rw [hX] at hnx
        have HNX2 := Lib.hid hnx
        clear hnx
        have HSUB := Lib.hid (sub_0 wr i hi64)
        have HX := Lib.hid hX
        clear hX
        go_upto_region 31 with (first
          | (go_at_call 15; refine HSUB.out.mono ?_; rintro y wM ⟨sM, rfl, mM, bM⟩; have HSY := Lib.hid (tp_say (P0.out.bel bM) HK.out HLL.out hi64 HAL.out (by omega) HX.out mM); clear mM bM)
          | (go_at_call 13; refine HSY.out.mono ?_; rintro y wN ⟨⟨sN, rfl, mN⟩, pN⟩; have HMN := Lib.hid mN; have PN := Lib.hid pN; clear mN pN; obtain ⟨kN, hkN⟩ : ∃ y, wN.heap.size = y := ⟨_, rfl⟩; have hrx := CR.new wN 31 Z16; rw [hkN] at hrx; have HRN := Lib.hid hrx; have HRNk := Lib.hid hkN; clear hrx)
          | (refine L_storeRow (old := Z16) (new := mgc (subM X i) sN) rfl 31 _ _ rfl rfl rfl HRN.out iMsg rfl rfl (mgc_one (subM X i) sN) ?_; intro wO hz hg; have HZO := Lib.hid (show CR wO kN 31 (mgc (subM X i) sN) from hz); have HGO := Lib.hid hg; clear hz hg))
        have hb : Below wN.heap.size wN wO := (below_alloc wN (.cells Z16.toArray 31)).grown HGO.out (by simp) (fun j hj => by cases hj; rw [HRNk.out]; exact Nat.le_refl _)
        have HBO := Lib.hid hb
        clear hb HRN HGO
        have c1 : wO.cell? ⟨kN, 1, none⟩ = some (.int .u64 (X : Int)) := HZO.out.at_ 1
        have HRGO := Lib.hid HZO.out.rng
        have HHO := Lib.hid (tp_hear (PN.out.bel HBO.out) HK.out HLL.out hi64 HAL.out (by omega) HX.out (HMN.out.bel HBO.out (Nat.le_refl _)))
        clear HSUB HSY PN
        go_wp2_with (first
          | (refine L_loadG 31 _ rfl (by rfl) _ _ rfl _ _ HRGO.out Tryd.underlying31 rfl iMsg ?_)
          | (go_at_call 9; refine HHO.out.mono ?_; rintro y wP ⟨rfl, pP⟩; have PP := Lib.hid pP; clear pP))
        exact ⟨⟨i + 1, by simp, by omega, PP.out.cast (by rw [HNX2.out, ← HMX0.out]) (by rw [HNX2.out, ← HMX0.out])⟩, by simp; omega⟩
      · have qin : decide (n ≤ i) = true := decide_eq_true (by omega)
        have P0 := Lib.hid (show TP w g gb (aS (subL n i) i) (bS (subL n i) i) wr from P.out.cast (by rw [Nat.max_eq_right (by omega)]) (by rw [Nat.max_eq_right (by omega)]))
        have hl := Lib.hid (subL_len n i)
        have ha := Lib.hid (subL_alias n i)
        have HSUB := Lib.hid (sub_0 wr i hi64)
        clear P
        go_upto_region 20 with (first
          | (go_at_call 15; refine HSUB.out.mono ?_; rintro y wA ⟨sA, rfl, mA, bA⟩; have HSY := Lib.hid (tp_credit (P0.out.bel bA) HK.out hl.out hi64 ha.out (Nat.le_refl i) mA); clear mA bA)
          | (go_at_call 13; refine HSY.out.mono ?_; rintro y wB ⟨rfl, pB⟩; have PB := Lib.hid pB; clear pB; obtain ⟨kB, hkB⟩ : ∃ y, wB.heap.size = y := ⟨_, rfl⟩; have hrx := CR.new wB 31 Z16; rw [hkB] at hrx; have HRB := Lib.hid hrx; have HRBk := Lib.hid hkB; clear hrx)
          | (refine L_storeRow (old := Z16) (new := Z16) rfl 31 _ _ rfl rfl rfl HRB.out iMsg rfl rfl (by simp [Z16, Value.oneCell']) ?_; intro wC hz hg; have HGC := Lib.hid hg; clear hz hg))
        have hb : Below wB.heap.size wB wC := (below_alloc wB (.cells Z16.toArray 31)).grown HGC.out (by simp) (fun j hj => by cases hj; rw [HRBk.out]; exact Nat.le_refl _)
        have HBC := Lib.hid hb
        clear hb HRB HGC
        have PC := Lib.hid (PB.out.bel HBC.out)
        clear P0 PB HSUB HSY
        by_cases hn0 : n = 0
        · have q0 : ((n : Int) == 0) = true := by simp; omega
          go_wp2
          go_ret
          exact ⟨rfl, PC.out.b⟩
        · have q0 : ((n : Int) == 0) = false := by simp; omega
          obtain ⟨D, hD⟩ : ∃ D, i - n = D := ⟨_, rfl⟩
          obtain ⟨E, hE⟩ : ∃ E, 2 * D = E := ⟨_, rfl⟩
          have hs1 : IntKind.u64.wrap ((i : Int) - (n : Int)) = (D : Int) := by rw [IntWalk.u64_in _ (by omega)]; omega
          have hs2 : (i : Int) - (n : Int) = (D : Int) := by omega
          have hs3 : IntKind.u64.wrap (2 * (D : Int)) = (E : Int) := by rw [IntWalk.u64_in _ (by omega)]; omega
          have hs4 : 2 * (D : Int) = (E : Int) := by omega
          have hx0 : (subL n i)[D]? = some ⟨subM (2 * D) D, 1⟩ := by rw [subL_get (by omega), if_neg (by omega)]
          have hnx : ((subL n i).set D ⟨subM (2 * D) D, 3⟩) ++ [⟨subM (2 * i) i, 1⟩] = subL n (i + 1) := by rw [← hD]; exact subL_big (by omega) (by omega)
          have ha2 : ((subL n i).set D ⟨subM (2 * D) D, 3⟩).any (aliasB i) = false := by rw [← hD]; exact subL_set_alias n i
          have hl2 : ((subL n i).set D ⟨subM (2 * D) D, 3⟩).length = i := by rw [List.length_set]; exact hl.out
          obtain ⟨L0, hL0⟩ : ∃ L, subL n i = L := ⟨_, rfl⟩
          have hl := hl.out
          rw [hL0] at PC hx0 hnx ha2 hl2 hl
          have hsu : Calls Tryd.prog 13 #[.pointer (some ⟨g, 0, none⟩), .agg #[.int .u64 10, .int .u64 (E : Int), .int .u64 0, .slice none 0 0, .int .u8 0, .int .u8 0, .int .u64 0, .int .u64 0, .int .u64 0, .int .u64 0, .bool false, .int .u64 0, .slice none 0 0, .int .u64 0, .int .u64 0, .slice none 0 0]] wC fun e w' => (∃ s', e = .returned (.tuple #[.agg (mgc (unsM E) s').toArray, .int .i64 0]) ∧ MR w' (unsM E) s') ∧ TP w g gb (aS (L0.set D ⟨subM (2 * D) D, 3⟩) i) (bS L0 i) w' := tp_uns (s := ML0) PC.out HK.out (by omega) (by omega) hx0 hE (mr_uns wC E (by omega))
          have HSU := Lib.hid hsu
          have HNX := Lib.hid hnx
          have HAL := Lib.hid ha2
          have HLL := Lib.hid hl2
          have HE := Lib.hid hE
          have HX0 := Lib.hid hx0
          have hD64 : D < 64 := by omega
          have hl0 : L0.length ≤ 64 := by omega
          clear hsu hL0 ha hD hE PC hx0 hnx ha2 hl2 hl
          go_upto_region 25 with (first
            | (go_at_call 13; refine HSU.out.mono ?_; rintro y wD ⟨⟨sD, rfl, mD⟩, pD⟩; have HMD := Lib.hid mD; have PD := Lib.hid pD; clear mD pD; obtain ⟨kD, hkD⟩ : ∃ y, wD.heap.size = y := ⟨_, rfl⟩; have hrx := CR.new wD 31 Z16; rw [hkD] at hrx; have HRD := Lib.hid hrx; have HRDk := Lib.hid hkD; clear hrx)
            | (refine L_storeRow (old := Z16) (new := mgc (unsM E) sD) rfl 31 _ _ rfl rfl rfl HRD.out iMsg rfl rfl (mgc_one (unsM E) sD) ?_; intro wE hz hg; have HZE := Lib.hid (show CR wE kD 31 (mgc (unsM E) sD) from hz); have HGE := Lib.hid hg; clear hz hg))
          have hb : Below wD.heap.size wD wE := (below_alloc wD (.cells Z16.toArray 31)).grown HGE.out (by simp) (fun j hj => by cases hj; rw [HRDk.out]; exact Nat.le_refl _)
          have HBE := Lib.hid hb
          clear hb HRD HGE
          have HRGE := Lib.hid HZE.out.rng
          have HHE := Lib.hid (tp_end (PD.out.bel HBE.out) HK.out hl0 hD64 (by omega) HX0.out HE.out (HMD.out.bel HBE.out (Nat.le_refl _)))
          clear HSU HMD PD
          go_upto_region 27 with (first
            | (refine L_loadG 31 _ rfl (by rfl) _ _ rfl _ _ HRGE.out Tryd.underlying31 rfl iMsg ?_)
            | (go_at_call 9; refine HHE.out.mono ?_; rintro y wF ⟨rfl, pF⟩; have PF := Lib.hid pF; clear pF))
          have HOF := Lib.hid (tp_out_b PF.out rfl)
          clear HHE HRGE PF
          go_upto_region 28 with (go_at_call 12; refine HOF.out.mono ?_; rintro y wG ⟨⟨qg, qcg, lg, rfl, hrg, hmr⟩, pG⟩; have HRGG := Lib.hid hrg; have PG := Lib.hid pG; have HMX := Lib.hid (tp_max pG HK.out (by rw [HLL.out]; omega) (by omega) hmr); have cq : wG.cell? ⟨qg, 0, none⟩ = some (.int .u64 21) := hrg 0 _ rfl; clear hrg pG hmr)
          clear HOF
          go_upto_region 30 with (first
            | ((with_reducible refine gate_ix ?_); refine L_indexZ tQ _ _ rfl .i64 _ 0 rfl rfl rfl (by omega) rfl (by rfl) ?_)
            | (refine L_loadG 31 _ rfl (by rfl) _ _ rfl _ _ HRGG.out Tryd.underlying31 rfl iMsg ?_)
            | (go_at_call 9; refine HMX.out.mono ?_; rintro y wr2 ⟨rfl, pH⟩; have PH := Lib.hid pH; clear pH))
          have P0 := Lib.hid (show TP w g gb (aS (L0.set D ⟨subM (2 * D) D, 3⟩) (i + 1)) (bS (L0.set D ⟨subM (2 * D) D, 3⟩) (i + 1)) wr2 from PH.out)
          have HMX0 := Lib.hid (show i + 1 = max n (i + 1) by omega)
          obtain ⟨L, hL⟩ : ∃ L, L0.set D ⟨subM (2 * D) D, 3⟩ = L := ⟨_, rfl⟩
          rw [hL] at P0 HLL HAL HNX
          clear PH PG HMX HRGG cq hL hs1 hs2 hs3 hs4 HX0 HE
          obtain ⟨X, hX⟩ : ∃ X, 2 * i = X := ⟨_, rfl⟩
          have qx : ((X : Int) != 2 * (i : Int)) = false := by simp; omega
          have hnx := HNX.out
          rw [hX] at hnx
          have HNX2 := Lib.hid hnx
          clear hnx
          have HSUB := Lib.hid (sub_0 wr2 i hi64)
          have HX := Lib.hid hX
          clear hX
          go_upto_region 31 with (first
            | (go_at_call 15; refine HSUB.out.mono ?_; rintro y wM ⟨sM, rfl, mM, bM⟩; have HSY := Lib.hid (tp_say (P0.out.bel bM) HK.out HLL.out hi64 HAL.out (by omega) HX.out mM); clear mM bM)
            | (go_at_call 13; refine HSY.out.mono ?_; rintro y wN ⟨⟨sN, rfl, mN⟩, pN⟩; have HMN := Lib.hid mN; have PN := Lib.hid pN; clear mN pN; obtain ⟨kN, hkN⟩ : ∃ y, wN.heap.size = y := ⟨_, rfl⟩; have hrx := CR.new wN 31 Z16; rw [hkN] at hrx; have HRN := Lib.hid hrx; have HRNk := Lib.hid hkN; clear hrx)
            | (refine L_storeRow (old := Z16) (new := mgc (subM X i) sN) rfl 31 _ _ rfl rfl rfl HRN.out iMsg rfl rfl (mgc_one (subM X i) sN) ?_; intro wO hz hg; have HZO := Lib.hid (show CR wO kN 31 (mgc (subM X i) sN) from hz); have HGO := Lib.hid hg; clear hz hg))
          have hb : Below wN.heap.size wN wO := (below_alloc wN (.cells Z16.toArray 31)).grown HGO.out (by simp) (fun j hj => by cases hj; rw [HRNk.out]; exact Nat.le_refl _)
          have HBO := Lib.hid hb
          clear hb HRN HGO
          have c1 : wO.cell? ⟨kN, 1, none⟩ = some (.int .u64 (X : Int)) := HZO.out.at_ 1
          have HRGO := Lib.hid HZO.out.rng
          have HHO := Lib.hid (tp_hear (PN.out.bel HBO.out) HK.out HLL.out hi64 HAL.out (by omega) HX.out (HMN.out.bel HBO.out (Nat.le_refl _)))
          clear HSUB HSY PN
          go_wp2_with (first
            | (refine L_loadG 31 _ rfl (by rfl) _ _ rfl _ _ HRGO.out Tryd.underlying31 rfl iMsg ?_)
            | (go_at_call 9; refine HHO.out.mono ?_; rintro y wP ⟨rfl, pP⟩; have PP := Lib.hid pP; clear pP))
          exact ⟨⟨i + 1, by simp, by omega, PP.out.cast (by rw [HNX2.out, ← HMX0.out]) (by rw [HNX2.out, ← HMX0.out])⟩, by simp; omega⟩
end Go.Proofs.YtokgpnkooigamaaDoor
