/- pipe: New. -/
import Derived.Test.YteekafpkbdbadaaOG
set_option maxRecDepth 100000
set_option linter.unusedVariables false
namespace Go.Proofs.Yteekafpkbdbadaa.Pi
open Go.RowKit
theorem iLim : (Try.prog.info? 27).map (·.size) = some 4 := by kernel_rfl
theorem newPurse_x (w : World) (n : Nat) : Calls Try.prog 19 #[.int .u64 (n : Int)] w fun e w' => ∃ pu, e = .returned (.pointer (some ⟨pu, 0, none⟩)) ∧ PuZ w' pu (min n 4611686018427387903) 0 ∧ w.heap.size ≤ pu ∧ Below w.heap.size w w' :=
  (newPurse_any w n).mono fun e w' ⟨h1, h2, h3⟩ => ⟨_, h1, h2, Nat.le_refl _, h3⟩
theorem newTill_x (w : World) (n : Nat) : Calls Try.prog 20 #[.int .u64 (n : Int)] w fun e w' => ∃ ti, e = .returned (.pointer (some ⟨ti, 0, none⟩)) ∧ TiZ w' ti (min n 4611686018427387903) (min n 4611686018427387903) 0 0 ∧ w.heap.size ≤ ti ∧ Below w.heap.size w w' :=
  (newTill_any w n).mono fun e w' ⟨h1, h2, h3⟩ => ⟨_, h1, h2, Nat.le_refl _, h3⟩
theorem purse_0 (w : World) : Calls Try.prog 19 #[.int .u64 0] w fun e w' => ∃ pu, e = .returned (.pointer (some ⟨pu, 0, none⟩)) ∧ PuZ w' pu 0 0 ∧ w.heap.size ≤ pu ∧ Below w.heap.size w w' := newPurse_x w 0
/-- what New holds behind its first statement -/
structure NW (w V : World) (g ml ms pu ti : Nat) (sv : Bool) (a b c d wi : Nat) : Prop where
  bb : Below w.heap.size w V
  row : CR V g 64 [.bool sv, u64 a, u64 b, u64 c, u64 d, u64 0, u64 0, u64 0, u64 0, .map (some ml), .map (some ms), ptr pu, ptr ti, .int .i64 0, .slice none 0 0]
  lm : LM V ml 0 (fun _ => none)
  pz : PuZ V pu 0 0
  tz : TiZ V ti wi wi 0 0
  ne : ml ≠ ms
  l1 : w.heap.size ≤ ml
  l2 : w.heap.size ≤ ms
  l3 : w.heap.size ≤ pu
  l4 : w.heap.size ≤ ti
  l5 : w.heap.size ≤ g
  g2 : ms < V.heap.size
theorem NW.grown {w V V' : World} {g ml ms pu ti : Nat} {sv : Bool} {a b c d wi x : Nat} (h : NW w V g ml ms pu ti sv a b c d wi) (hg : V.grownBy V' (some x)) (hx : w.heap.size ≤ x) (h1 : x ≠ g) (h2 : x ≠ ml) (h3 : x ≠ pu) (h4 : x ≠ ti) : NW w V' g ml ms pu ti sv a b c d wi :=
  ⟨bel_grown h.bb hg h.bb.size hx, h.row.grown hg (fun he => by injection he with he; exact h1 he.symm), h.lm.kept hg (fun he => by injection he with he; exact h2 he.symm), CR.grown h.pz hg (fun he => by injection he with he; exact h3 he.symm), CR.grown h.tz hg (fun he => by injection he with he; exact h4 he.symm), h.ne, h.l1, h.l2, h.l3, h.l4, h.l5, Nat.lt_of_lt_of_le h.g2 hg.size⟩
theorem NW.bel {w V V' : World} {g ml ms pu ti : Nat} {sv : Bool} {a b c d wi : Nat} (h : NW w V g ml ms pu ti sv a b c d wi) (hb : Below V.heap.size V V') : NW w V' g ml ms pu ti sv a b c d wi :=
  ⟨h.bb.trans (hb.mono h.bb.size), h.row.bel hb, h.lm.bel hb, CR.bel h.pz hb, CR.bel h.tz hb, h.ne, h.l1, h.l2, h.l3, h.l4, h.l5, Nat.lt_of_lt_of_le h.g2 hb.size⟩
theorem tKey : STy Try.prog 67 66 (.agg #[.bool false, .bool false]) 2 2 := ⟨Try.underlying67, by kernel_rfl, rfl, by decide⟩
def kix (a b : Bool) : Nat := (if a then 2 else 0) + (if b then 1 else 0)
def keys8 : List Value := [.bool false, .bool false, .bool false, .bool true, .bool true, .bool false, .bool true, .bool true]
/-- what New holds behind i of its sorts -/
structure NL (w V : World) (g ml ms pu ti q : Nat) (sv : Bool) (a b c d wi i : Nat) : Prop where
  nw : NW w V g ml ms pu ti sv a b c d wi
  i4 : i ≤ 4
  qr : CR V q 66 keys8
  ex : ∃ so : Nat → Nat, SM V ms i (fun x y => if kix x y < i then some (so (kix x y)) else none) ∧ (∀ j, j < i → CR V (so j) 70 [u64 0, u64 0, .int .i64 0] ∧ w.heap.size ≤ so j) ∧ (∀ j k, j < i → k < i → so j = so k → j = k)
theorem lm_ne {w : World} {b n x : Nat} {m : Nat → Option Nat} {t : TypeId} {l : List Value} (h : LM w b n m) (hc : CR w x t l) : x ≠ b := fun he => by
  obtain ⟨D, ⟨es, clock, h1, _⟩, _⟩ := h.own
  unfold CR at hc
  rw [he, h1] at hc
  cases hc
theorem sm_ne {w : World} {b n x : Nat} {m : Bool → Bool → Option Nat} {t : TypeId} {l : List Value} (h : SM w b n m) (hc : CR w x t l) : x ≠ b := fun he => by
  obtain ⟨D, ⟨es, clock, h1, _⟩, _⟩ := h.own
  unfold CR at hc
  rw [he, h1] at hc
  cases hc
theorem NL.bel {w V V' : World} {g ml ms pu ti q : Nat} {sv : Bool} {a b c d wi i : Nat} (h : NL w V g ml ms pu ti q sv a b c d wi i) (hb : Below V.heap.size V V') : NL w V' g ml ms pu ti q sv a b c d wi i := by
  obtain ⟨so, h1, h2, h3⟩ := h.ex
  exact ⟨h.nw.bel hb, h.i4, h.qr.bel hb, so, h1.bel hb, fun j hj => ⟨(h2 j hj).1.bel hb, (h2 j hj).2⟩, h3⟩
/-- one more sort -/
theorem NL.step {w V V1 V2 : World} {g ml ms pu ti q : Nat} {sv : Bool} {a b c d wi i s : Nat} (h : NL w V g ml ms pu ti q sv a b c d wi i) (x y : Bool) (hk : kix x y = i) (hi : i < 4) (hb : Below V.heap.size V V1) (hs : CR V1 s 70 [u64 0, u64 0, .int .i64 0]) (hsn : V.heap.size ≤ s)
    (hm : SM V2 ms (i + 1) (fun u v => if u = x ∧ v = y then some s else if kix u v < i then some (h.ex.choose (kix u v)) else none)) (hg : V1.grownBy V2 (some ms)) : NL w V2 g ml ms pu ti q sv a b c d wi (i + 1) := by
  have h0 := h.bel hb
  obtain ⟨h1, h2, h3⟩ := h.ex.choose_spec
  obtain ⟨so, hso⟩ : ∃ so, h.ex.choose = so := ⟨_, rfl⟩
  rw [hso] at h1 h2 h3 hm
  have hlt := h1.lt
  have h1' := h1.bel hb
  refine ⟨h0.nw.grown hg h.nw.l2 (fun he => sm_ne h1' h0.nw.row he.symm) (fun he => h.nw.ne he.symm) (fun he => sm_ne h1' h0.nw.pz he.symm) (fun he => sm_ne h1' h0.nw.tz he.symm), hi, h0.qr.grown hg (fun he => by injection he with he; exact sm_ne h1' h0.qr he), fun j => if j = i then s else so j, ?_, fun j hj => ?_, fun j k hj hk2 he => ?_⟩
  · refine hm.cast fun u v => ?_
    by_cases huv : u = x ∧ v = y
    · obtain ⟨rfl, rfl⟩ := huv
      simp [hk]
    · have hne : kix u v ≠ i := fun he => huv (by rw [← hk] at he; revert he; cases u <;> cases v <;> cases x <;> cases y <;> simp [kix])
      rw [if_neg huv]
      by_cases hl : kix u v < i
      · rw [if_pos hl, if_pos (by omega)]
        simp [hne]
      · rw [if_neg hl, if_neg (by omega)]
  · by_cases he : j = i
    · simp only [he, if_true]
      exact ⟨hs.grown hg (fun he => by injection he with he; exact sm_ne h1' hs he), Nat.le_trans h.nw.bb.size hsn⟩
    · simp only [he, if_false]
      have := h2 j (by omega)
      exact ⟨(this.1.bel hb).grown hg (fun he => by injection he with he; exact sm_ne h1' (this.1.bel hb) he), this.2⟩
  · by_cases e1 : j = i <;> by_cases e2 : k = i
    · omega
    · simp only [e1, if_true, e2, if_false] at he
      have := (h2 k (by omega)).1.lt
      omega
    · simp only [e1, if_false, e2, if_true] at he
      have := (h2 j (by omega)).1.lt
      omega
    · simp only [e1, if_false, e2] at he
      exact h3 j k (by omega) (by omega) he
/-- a new table, no stream may be opened yet -/
def newT (sv : Bool) (a b c d wi : Nat) : TaS := ⟨sv, ⟨a, b, c, d⟩, ⟨0, 0, 0, 0⟩, [], fun _ => none, fun _ _ => ⟨0, 0, 0⟩, 0, 0, ⟨wi, wi, 0, 0⟩, 0, []⟩
def roleN (g ml ms pu ti : Nat) (so : Nat → Nat) : Nat → Nat := fun k => if k = g then 1 else if k = ml then 2 else if k = ms then 3 else if k = pu then 8 else if k = ti then 9 else if k = so 0 then 4 else if k = so 1 then 5 else if k = so 2 then 6 else if k = so 3 then 7 else 0
theorem cr_ne {w : World} {x y : Nat} {t t' : TypeId} {l l' : List Value} (h : CR w x t l) (h' : CR w y t' l') (ht : t ≠ t') : x ≠ y := fun he => by subst he; exact ht (CR.type h h').1
theorem kix_rso (x y : Bool) : rso x y = 4 + kix x y := by cases x <;> cases y <;> rfl
theorem NL.tz {w V : World} {g ml ms pu ti q : Nat} {sv : Bool} {a b c d wi : Nat} (h : NL w V g ml ms pu ti q sv a b c d wi 4) : ∃ role Y, TZ V role g (newT sv a b c d wi) Y ∧ Y.n = 0 ∧ Y.ms = ms ∧ (∀ k, role k ≠ 0 → w.heap.size ≤ k) := by
  obtain ⟨so, h1, h2, h3⟩ := h.ex
  have r := h.nw.row
  have z : ∀ j, j < 4 → so j ≠ g ∧ so j ≠ ml ∧ so j ≠ ms ∧ so j ≠ pu ∧ so j ≠ ti ∧ so j < V.heap.size := fun j hj => ⟨cr_ne (h2 j hj).1 r (by decide), lm_ne h.nw.lm (h2 j hj).1, sm_ne h1 (h2 j hj).1, cr_ne (h2 j hj).1 h.nw.pz (by decide), cr_ne (h2 j hj).1 h.nw.tz (by decide), (h2 j hj).1.lt⟩
  have e1 : pu ≠ g := cr_ne h.nw.pz r (by decide)
  have e2 : ti ≠ g := cr_ne h.nw.tz r (by decide)
  have e3 : ti ≠ pu := cr_ne h.nw.tz h.nw.pz (by decide)
  have e4 : g ≠ ml := lm_ne h.nw.lm r
  have e5 : pu ≠ ml := lm_ne h.nw.lm h.nw.pz
  have e6 : ti ≠ ml := lm_ne h.nw.lm h.nw.tz
  have e7 : g ≠ ms := sm_ne h1 r
  have e8 : pu ≠ ms := sm_ne h1 h.nw.pz
  have e9 : ti ≠ ms := sm_ne h1 h.nw.tz
  have e10 := h.nw.ne
  have d01 : so 0 ≠ so 1 := fun he => by have := h3 0 1 (by omega) (by omega) he; omega
  have d02 : so 0 ≠ so 2 := fun he => by have := h3 0 2 (by omega) (by omega) he; omega
  have d03 : so 0 ≠ so 3 := fun he => by have := h3 0 3 (by omega) (by omega) he; omega
  have d12 : so 1 ≠ so 2 := fun he => by have := h3 1 2 (by omega) (by omega) he; omega
  have d13 : so 1 ≠ so 3 := fun he => by have := h3 1 3 (by omega) (by omega) he; omega
  have d23 : so 2 ≠ so 3 := fun he => by have := h3 2 3 (by omega) (by omega) he; omega
  obtain ⟨z00, z01, z02, z03, z04, z05⟩ := z 0 (by omega)
  obtain ⟨z10, z11, z12, z13, z14, z15⟩ := z 1 (by omega)
  obtain ⟨z20, z21, z22, z23, z24, z25⟩ := z 2 (by omega)
  obtain ⟨z30, z31, z32, z33, z34, z35⟩ := z 3 (by omega)
  have lg := r.lt
  have lp := CR.lt h.nw.pz
  have lt := CR.lt h.nw.tz
  have ll := h.nw.lm.lt
  have l2 := h.nw.g2
  refine ⟨roleN g ml ms pu ti so, ⟨ml, 0, ms, fun x y => so (kix x y), pu, ti, SA0, fun _ => 0⟩, ⟨⟨r, by simp [roleN]⟩, ⟨h.nw.lm, by simp [roleN, e4.symm]⟩, ⟨⟨4, h1.cast (fun x y => by rw [if_pos (by cases x <;> cases y <;> decide)])⟩, by simp [roleN, e7.symm, e10.symm]⟩, fun x y => ⟨(h2 _ (by cases x <;> cases y <;> decide)).1, ?_⟩, ⟨h.nw.pz, by simp [roleN, e1, e5, e8]⟩, ⟨h.nw.tz, by simp [roleN, e2, e6, e9, e3]⟩, OXZ.nil _ _ _ _ _, (fun id s hs => by cases hs), ⟨by simp [newT], fun id => by simp [newT], by simp [newT]⟩, fun k hk => ?_⟩, rfl, rfl, fun k hk => ?_⟩
  · cases x <;> cases y
    · show roleN g ml ms pu ti so (so 0) = 4
      unfold roleN
      rw [if_neg z00, if_neg z01, if_neg z02, if_neg z03, if_neg z04, if_pos rfl]
    · show roleN g ml ms pu ti so (so 1) = 5
      unfold roleN
      rw [if_neg z10, if_neg z11, if_neg z12, if_neg z13, if_neg z14, if_neg d01.symm, if_pos rfl]
    · show roleN g ml ms pu ti so (so 2) = 6
      unfold roleN
      rw [if_neg z20, if_neg z21, if_neg z22, if_neg z23, if_neg z24, if_neg d02.symm, if_neg d12.symm, if_pos rfl]
    · show roleN g ml ms pu ti so (so 3) = 7
      unfold roleN
      rw [if_neg z30, if_neg z31, if_neg z32, if_neg z33, if_neg z34, if_neg d03.symm, if_neg d13.symm, if_neg d23.symm, if_pos rfl]
  · unfold roleN
    rw [if_neg (by omega), if_neg (by omega), if_neg (by omega), if_neg (by omega), if_neg (by omega), if_neg (by omega), if_neg (by omega), if_neg (by omega), if_neg (by omega)]
  · unfold roleN at hk
    have g0 := (h2 0 (by omega)).2
    have g1 := (h2 1 (by omega)).2
    have g2 := (h2 2 (by omega)).2
    have g3 := (h2 3 (by omega)).2
    have k1 := h.nw.l1
    have k2 := h.nw.l2
    have k3 := h.nw.l3
    have k4 := h.nw.l4
    have k5 := h.nw.l5
    refine Nat.le_of_not_lt fun hlt => hk ?_
    rw [if_neg (by omega), if_neg (by omega), if_neg (by omega), if_neg (by omega), if_neg (by omega), if_neg (by omega), if_neg (by omega), if_neg (by omega), if_neg (by omega)]
/-- a new table -/
def newS (sv : Bool) (a b c d : Nat) : TaS := Pi.setSo (Pi.setSo (newT sv a b c d (min b 4611686018427387903)) (!sv) false ⟨0, min c 1152921504606846976, 0⟩) (!sv) true ⟨0, min d 1152921504606846976, 0⟩
set_option maxHeartbeats 8000000 in
theorem new_any (w : World) (sv : Bool) (a b c d : Nat) :
    Calls Try.prog 8 #[.bool sv, .agg #[.int .u64 (a : Int), .int .u64 (b : Int), .int .u64 (c : Int), .int .u64 (d : Int)]] w fun e w' => ∃ g role Y, e = .returned (ptr g) ∧ TZ w' role g (newS sv a b c d) Y ∧ Y.n = 0 ∧ Below w.heap.size w w' ∧ (∀ k, role k ≠ 0 → w.heap.size ≤ k) := by
  have hb := below_alloc w (.cells #[.int .u64 (a : Int), .int .u64 (b : Int), .int .u64 (c : Int), .int .u64 (d : Int)] 27)
  have hr := CR.new w 27 [.int .u64 (a : Int), .int .u64 (b : Int), .int .u64 (c : Int), .int .u64 (d : Int)]
  obtain ⟨k, hk⟩ : ∃ k, w.heap.size = k := ⟨_, rfl⟩
  obtain ⟨w1, hw1⟩ : ∃ x, w.alloc (.cells #[.int .u64 (a : Int), .int .u64 (b : Int), .int .u64 (c : Int), .int .u64 (d : Int)] 27) = x := ⟨_, rfl⟩
  have hr' : CR w1 k 27 [.int .u64 (a : Int), .int .u64 (b : Int), .int .u64 (c : Int), .int .u64 (d : Int)] := by rw [← hw1, ← hk]; exact hr
  rw [hw1] at hb
  obtain ⟨wi, hwi⟩ : ∃ wi, min b 4611686018427387903 = wi := ⟨_, rfl⟩
  have HTL := Lib.hid (fun (x : World) => by have hq := newTill_x x b; rw [hwi] at hq; exact hq)
  have bV : Below w1.heap.size w1 w1.drew := bel_drew _ _
  obtain ⟨V, hV⟩ : ∃ V, w1.drew = V := ⟨_, rfl⟩
  rw [hV] at bV
  have HBV := Lib.hid bV
  have HR := Lib.hid (hr'.bel bV)
  have HR1 := Lib.hid hr'
  have HB := Lib.hid hb
  have lk : k < V.heap.size := HR.out.lt
  have b0 : Below V.heap.size V V := Below.refl _ _
  have HWI := Lib.hid hwi
  clear hb hr hr' hwi bV
  go_enter Try.func8, Try.ntmps8
  go_upto_region 1 with (fail)
  refine wp_region_held_drew (S := fun x => x.cell? ⟨k, 1, none⟩ = some (.int .u64 (b : Int)) ∧ x.rangeAt k 0 [.int .u64 (a : Int), .int .u64 (b : Int), .int .u64 (c : Int), .int .u64 (d : Int)]) (by kernel_rfl) ⟨HR1.out.at_ 1, HR1.out.rng⟩ (fun hHeld => ?_)
  rw [hV] at hHeld ⊢
  clear hw1
  have hmm : ∀ (t : TypeId) (x : World), (Instr.makeMap t none).run Try.prog x = .ok (.map (some x.heap.size)) (x.alloc (.map #[] 0)) := fun _ _ => rfl
  refine wpAnyH_take (i := 0) (v := .bool sv) rfl (by kernel_rfl) (by kernel_rfl) (by kernel_rfl) (fun _ _ _ h => h) (Or.inl ⟨by rfl, fun w h => by go_simp⟩) hHeld ?_
  try simp only [Act.put, List.getElem_toArray, List.getElem_cons_zero, List.setIfInBounds_toArray, List.set_cons_zero, List.set_cons_succ]
  refine wpAnyH_take (i := 1) rfl (by kernel_rfl) (by kernel_rfl) (by kernel_rfl) (fun _ _ _ h => h) (yieldsIf_load_mid (by rfl) _ _ rfl _ _ rfl _ _ (fun w h => h.2) Try.underlying27 rfl iLim) hHeld ?_
  try simp only [Act.put, List.getElem_toArray, List.getElem_cons_succ, List.getElem_cons_zero, List.setIfInBounds_toArray, List.set_cons_zero, List.set_cons_succ]
  refine wpAnyH_take (i := 5) (v := .pointer (some ⟨k, 1, none⟩)) rfl (by kernel_rfl) (by kernel_rfl) (by kernel_rfl) (fun _ _ _ h => h) (Or.inl ⟨by rfl, fun w h => by go_simp⟩) hHeld ?_
  try simp only [Act.put, List.getElem_toArray, List.getElem_cons_succ, List.getElem_cons_zero, List.setIfInBounds_toArray, List.set_cons_zero, List.set_cons_succ]
  refine wpAnyH_take (i := 6) (v := .int .u64 (b : Int)) rfl (by kernel_rfl) (by kernel_rfl) (by kernel_rfl) (fun _ _ _ h => h) (Or.inl ⟨by rfl, fun w h => by have h2 : w.cell? ⟨k, 1, none⟩ = some (.int .u64 (b : Int)) := h.1; go_simp⟩) hHeld ?_
  try simp only [Act.put, List.getElem_toArray, List.getElem_cons_succ, List.getElem_cons_zero, List.setIfInBounds_toArray, List.set_cons_zero, List.set_cons_succ]
  refine (fun (hka : Hid (∀ (w : World) (ml : Nat) (ms : Nat) (pu : Nat) (ti : Nat), (Below V.heap.size V w ∧ LM w ml 0 (fun _ => none) ∧ SM w ms 0 (fun _ _ => none) ∧ PuZ w pu 0 0 ∧ TiZ w ti wi wi 0 0 ∧ ml ≠ ms ∧ V.heap.size ≤ ml ∧ V.heap.size ≤ ms ∧ V.heap.size ≤ pu ∧ V.heap.size ≤ ti) → (?Pa : World → Nat → Nat → Nat → Nat → Prop) w ml ms pu ti)) => ?maina) (Lib.hid ?resta)
  case maina =>
    refine wpAnyH_ready (rs := [2, 3, 4]) (by kernel_rfl) (by simp) (AllReadyH.cons rfl (fun K hK => ?qa1a) (AllReadyH.cons rfl (fun K hK => ?qa1b) (AllReadyH.cons rfl (fun K hK => ?qa1c) AllReadyH.nil)))
    case qa1a =>
      go_simp
      have ba2 := b0.alloc b0.size (.map #[] 0)
      have ha3 : LM (V.alloc (.map #[] 0)) V.heap.size 0 (fun _ => none) := LM.made _
      refine hK.out _ _ (And.intro ((HR.out.bel ba2).at_ 1) (HR.out.bel ba2).rng) (fun hHeld => ?_)
      clear hK K
      try simp only [Act.put, List.getElem_toArray, List.getElem_cons_succ, List.getElem_cons_zero, List.setIfInBounds_toArray, List.set_cons_zero, List.set_cons_succ]
      generalize (World.alloc _ _) = va1 at *
      obtain ⟨ml, hgml, ha4⟩ : ∃ g, V.heap.size = g ∧ V.heap.size ≤ g := ⟨_, rfl, b0.size⟩
      rw [hgml] at ha3 ⊢
      refine wpAnyH_ready (rs := [3, 4]) (by kernel_rfl) (by simp) (AllReadyH.cons rfl (fun K hK => ?qa2a) (AllReadyH.cons rfl (fun K hK => ?qa2b) AllReadyH.nil))
      case qa2a =>
        go_simp
        have ba6 := ba2.alloc ba2.size (.map #[] 0)
        have ha7 : SM (va1.alloc (.map #[] 0)) va1.heap.size 0 (fun _ _ => none) := SM.made _
        have ha8 := ha3.bel (below_alloc _ (.map #[] 0))
        have ha9 := ha4
        refine hK.out _ _ (And.intro ((HR.out.bel ba6).at_ 1) (HR.out.bel ba6).rng) (fun hHeld => ?_)
        clear hK K
        try simp only [Act.put, List.getElem_toArray, List.getElem_cons_succ, List.getElem_cons_zero, List.setIfInBounds_toArray, List.set_cons_zero, List.set_cons_succ]
        generalize (World.alloc _ _) = va5 at *
        obtain ⟨ms, hgms, ha10, ha11⟩ : ∃ g, va1.heap.size = g ∧ V.heap.size ≤ g ∧ ml ≠ g := ⟨_, rfl, ba2.size, Nat.ne_of_lt (LM.lt ha3)⟩
        rw [hgms] at ha7 ⊢
        refine wpAnyH_ready (rs := [4]) (by kernel_rfl) (by simp) (AllReadyH.cons rfl (fun K hK => ?_) AllReadyH.nil)
        go_simp
        go_at_call 19
        refine (purse_0 va5).mono ?_
        rintro x va12 ⟨pu, rfl, hpu, lpu, Ba14⟩
        have ba13 := ba6.trans (Ba14.mono ba6.size)
        have ha15 := ha8.bel Ba14
        have ha16 := ha9
        have ha17 := ha7.bel Ba14
        have ha18 := ha10
        have ha19 := ha11
        have ha20 : PuZ va12 pu 0 0 := hpu
        have ha21 : V.heap.size ≤ pu := Nat.le_trans ba6.size lpu
        refine hK.out _ _ (And.intro ((HR.out.bel ba13).at_ 1) (HR.out.bel ba13).rng) (fun hHeld => ?_)
        clear hK K
        try simp only [Act.put, List.getElem_toArray, List.getElem_cons_succ, List.getElem_cons_zero, List.setIfInBounds_toArray, List.set_cons_zero, List.set_cons_succ]
        refine wpAnyH_ready (rs := [7]) (by kernel_rfl) (by simp) (AllReadyH.cons rfl (fun K hK => ?_) AllReadyH.nil)
        go_simp
        go_at_call 20
        refine (HTL.out va12).mono ?_
        rintro x va22 ⟨ti, rfl, hti, lti, Ba24⟩
        have ba23 := ba13.trans (Ba24.mono ba13.size)
        have ha25 := ha15.bel Ba24
        have ha26 := ha16
        have ha27 := ha17.bel Ba24
        have ha28 := ha18
        have ha29 := ha19
        have ha30 := CR.bel ha20 Ba24
        have ha31 := ha21
        have ha32 : TiZ va22 ti wi wi 0 0 := hti
        have ha33 : V.heap.size ≤ ti := Nat.le_trans ba13.size lti
        refine hK.out _ _ (And.intro ((HR.out.bel ba23).at_ 1) (HR.out.bel ba23).rng) (fun hHeld => ?_)
        clear hK K
        try simp only [Act.put, List.getElem_toArray, List.getElem_cons_succ, List.getElem_cons_zero, List.setIfInBounds_toArray, List.set_cons_zero, List.set_cons_succ]
        refine wpAnyH_take (i := 8) (v := .agg #[.bool sv, .int .u64 (a : Int), .int .u64 (b : Int), .int .u64 (c : Int), .int .u64 (d : Int), .int .u64 0, .int .u64 0, .int .u64 0, .int .u64 0, .map (some ml), .map (some ms), .pointer (some ⟨pu, 0, none⟩), .pointer (some ⟨ti, 0, none⟩), .int .i64 0, .slice none 0 0]) rfl (by kernel_rfl) (by kernel_rfl) (by kernel_rfl) (fun _ _ _ h => h) (Or.inl ⟨by rfl, fun w h => by go_simp⟩) hHeld ?_
        try simp only [Act.put, List.getElem_toArray, List.getElem_cons_succ, List.getElem_cons_zero, List.setIfInBounds_toArray, List.set_cons_zero, List.set_cons_succ]
        exact hka.out va22 ml ms pu ti ⟨ba23, ha25, ha27, ha30, ha32, ha29, ha26, ha28, ha31, ha33⟩
      case qa2b =>
        go_simp
        go_at_call 19
        refine (purse_0 va1).mono ?_
        rintro x va34 ⟨pu, rfl, hpu, lpu, Ba36⟩
        have ba35 := ba2.trans (Ba36.mono ba2.size)
        have ha37 := ha3.bel Ba36
        have ha38 := ha4
        have ha39 : PuZ va34 pu 0 0 := hpu
        have ha40 : V.heap.size ≤ pu := Nat.le_trans ba2.size lpu
        refine hK.out _ _ (And.intro ((HR.out.bel ba35).at_ 1) (HR.out.bel ba35).rng) (fun hHeld => ?_)
        clear hK K
        try simp only [Act.put, List.getElem_toArray, List.getElem_cons_succ, List.getElem_cons_zero, List.setIfInBounds_toArray, List.set_cons_zero, List.set_cons_succ]
        refine wpAnyH_ready (rs := [3, 7]) (by kernel_rfl) (by simp) (AllReadyH.cons rfl (fun K hK => ?qa3a) (AllReadyH.cons rfl (fun K hK => ?qa3b) AllReadyH.nil))
        case qa3a =>
          go_simp
          have ba42 := ba35.alloc ba35.size (.map #[] 0)
          have ha43 : SM (va34.alloc (.map #[] 0)) va34.heap.size 0 (fun _ _ => none) := SM.made _
          have ha44 := ha37.bel (below_alloc _ (.map #[] 0))
          have ha45 := ha38
          have ha46 := CR.bel ha39 (below_alloc _ (.map #[] 0))
          have ha47 := ha40
          refine hK.out _ _ (And.intro ((HR.out.bel ba42).at_ 1) (HR.out.bel ba42).rng) (fun hHeld => ?_)
          clear hK K
          try simp only [Act.put, List.getElem_toArray, List.getElem_cons_succ, List.getElem_cons_zero, List.setIfInBounds_toArray, List.set_cons_zero, List.set_cons_succ]
          generalize (World.alloc _ _) = va41 at *
          obtain ⟨ms, hgms, ha48, ha49⟩ : ∃ g, va34.heap.size = g ∧ V.heap.size ≤ g ∧ ml ≠ g := ⟨_, rfl, ba35.size, Nat.ne_of_lt (LM.lt ha37)⟩
          rw [hgms] at ha43 ⊢
          refine wpAnyH_ready (rs := [7]) (by kernel_rfl) (by simp) (AllReadyH.cons rfl (fun K hK => ?_) AllReadyH.nil)
          go_simp
          go_at_call 20
          refine (HTL.out va41).mono ?_
          rintro x va50 ⟨ti, rfl, hti, lti, Ba52⟩
          have ba51 := ba42.trans (Ba52.mono ba42.size)
          have ha53 := ha44.bel Ba52
          have ha54 := ha45
          have ha55 := CR.bel ha46 Ba52
          have ha56 := ha47
          have ha57 := ha43.bel Ba52
          have ha58 := ha48
          have ha59 := ha49
          have ha60 : TiZ va50 ti wi wi 0 0 := hti
          have ha61 : V.heap.size ≤ ti := Nat.le_trans ba42.size lti
          refine hK.out _ _ (And.intro ((HR.out.bel ba51).at_ 1) (HR.out.bel ba51).rng) (fun hHeld => ?_)
          clear hK K
          try simp only [Act.put, List.getElem_toArray, List.getElem_cons_succ, List.getElem_cons_zero, List.setIfInBounds_toArray, List.set_cons_zero, List.set_cons_succ]
          refine wpAnyH_take (i := 8) (v := .agg #[.bool sv, .int .u64 (a : Int), .int .u64 (b : Int), .int .u64 (c : Int), .int .u64 (d : Int), .int .u64 0, .int .u64 0, .int .u64 0, .int .u64 0, .map (some ml), .map (some ms), .pointer (some ⟨pu, 0, none⟩), .pointer (some ⟨ti, 0, none⟩), .int .i64 0, .slice none 0 0]) rfl (by kernel_rfl) (by kernel_rfl) (by kernel_rfl) (fun _ _ _ h => h) (Or.inl ⟨by rfl, fun w h => by go_simp⟩) hHeld ?_
          try simp only [Act.put, List.getElem_toArray, List.getElem_cons_succ, List.getElem_cons_zero, List.setIfInBounds_toArray, List.set_cons_zero, List.set_cons_succ]
          exact hka.out va50 ml ms pu ti ⟨ba51, ha53, ha57, ha55, ha60, ha59, ha54, ha58, ha56, ha61⟩
        case qa3b =>
          go_simp
          go_at_call 20
          refine (HTL.out va34).mono ?_
          rintro x va62 ⟨ti, rfl, hti, lti, Ba64⟩
          have ba63 := ba35.trans (Ba64.mono ba35.size)
          have ha65 := ha37.bel Ba64
          have ha66 := ha38
          have ha67 := CR.bel ha39 Ba64
          have ha68 := ha40
          have ha69 : TiZ va62 ti wi wi 0 0 := hti
          have ha70 : V.heap.size ≤ ti := Nat.le_trans ba35.size lti
          refine hK.out _ _ (And.intro ((HR.out.bel ba63).at_ 1) (HR.out.bel ba63).rng) (fun hHeld => ?_)
          clear hK K
          try simp only [Act.put, List.getElem_toArray, List.getElem_cons_succ, List.getElem_cons_zero, List.setIfInBounds_toArray, List.set_cons_zero, List.set_cons_succ]
          refine wpAnyH_ready (rs := [3]) (by kernel_rfl) (by simp) (AllReadyH.cons rfl (fun K hK => ?_) AllReadyH.nil)
          go_simp
          have ba72 := ba63.alloc ba63.size (.map #[] 0)
          have ha73 : SM (va62.alloc (.map #[] 0)) va62.heap.size 0 (fun _ _ => none) := SM.made _
          have ha74 := ha65.bel (below_alloc _ (.map #[] 0))
          have ha75 := ha66
          have ha76 := CR.bel ha67 (below_alloc _ (.map #[] 0))
          have ha77 := ha68
          have ha78 := CR.bel ha69 (below_alloc _ (.map #[] 0))
          have ha79 := ha70
          refine hK.out _ _ (And.intro ((HR.out.bel ba72).at_ 1) (HR.out.bel ba72).rng) (fun hHeld => ?_)
          clear hK K
          try simp only [Act.put, List.getElem_toArray, List.getElem_cons_succ, List.getElem_cons_zero, List.setIfInBounds_toArray, List.set_cons_zero, List.set_cons_succ]
          generalize (World.alloc _ _) = va71 at *
          obtain ⟨ms, hgms, ha80, ha81⟩ : ∃ g, va62.heap.size = g ∧ V.heap.size ≤ g ∧ ml ≠ g := ⟨_, rfl, ba63.size, Nat.ne_of_lt (LM.lt ha65)⟩
          rw [hgms] at ha73 ⊢
          refine wpAnyH_take (i := 8) (v := .agg #[.bool sv, .int .u64 (a : Int), .int .u64 (b : Int), .int .u64 (c : Int), .int .u64 (d : Int), .int .u64 0, .int .u64 0, .int .u64 0, .int .u64 0, .map (some ml), .map (some ms), .pointer (some ⟨pu, 0, none⟩), .pointer (some ⟨ti, 0, none⟩), .int .i64 0, .slice none 0 0]) rfl (by kernel_rfl) (by kernel_rfl) (by kernel_rfl) (fun _ _ _ h => h) (Or.inl ⟨by rfl, fun w h => by go_simp⟩) hHeld ?_
          try simp only [Act.put, List.getElem_toArray, List.getElem_cons_succ, List.getElem_cons_zero, List.setIfInBounds_toArray, List.set_cons_zero, List.set_cons_succ]
          exact hka.out va71 ml ms pu ti ⟨ba72, ha74, ha73, ha76, ha78, ha81, ha75, ha80, ha77, ha79⟩
    case qa1b =>
      go_simp
      have ba83 := b0.alloc b0.size (.map #[] 0)
      have ha84 : SM (V.alloc (.map #[] 0)) V.heap.size 0 (fun _ _ => none) := SM.made _
      refine hK.out _ _ (And.intro ((HR.out.bel ba83).at_ 1) (HR.out.bel ba83).rng) (fun hHeld => ?_)
      clear hK K
      try simp only [Act.put, List.getElem_toArray, List.getElem_cons_succ, List.getElem_cons_zero, List.setIfInBounds_toArray, List.set_cons_zero, List.set_cons_succ]
      generalize (World.alloc _ _) = va82 at *
      obtain ⟨ms, hgms, ha85⟩ : ∃ g, V.heap.size = g ∧ V.heap.size ≤ g := ⟨_, rfl, b0.size⟩
      rw [hgms] at ha84 ⊢
      refine wpAnyH_ready (rs := [2, 4]) (by kernel_rfl) (by simp) (AllReadyH.cons rfl (fun K hK => ?qa4a) (AllReadyH.cons rfl (fun K hK => ?qa4b) AllReadyH.nil))
      case qa4a =>
        go_simp
        have ba87 := ba83.alloc ba83.size (.map #[] 0)
        have ha88 : LM (va82.alloc (.map #[] 0)) va82.heap.size 0 (fun _ => none) := LM.made _
        have ha89 := ha84.bel (below_alloc _ (.map #[] 0))
        have ha90 := ha85
        refine hK.out _ _ (And.intro ((HR.out.bel ba87).at_ 1) (HR.out.bel ba87).rng) (fun hHeld => ?_)
        clear hK K
        try simp only [Act.put, List.getElem_toArray, List.getElem_cons_succ, List.getElem_cons_zero, List.setIfInBounds_toArray, List.set_cons_zero, List.set_cons_succ]
        generalize (World.alloc _ _) = va86 at *
        obtain ⟨ml, hgml, ha91, ha92⟩ : ∃ g, va82.heap.size = g ∧ V.heap.size ≤ g ∧ g ≠ ms := ⟨_, rfl, ba83.size, Nat.ne_of_gt (SM.lt ha84)⟩
        rw [hgml] at ha88 ⊢
        refine wpAnyH_ready (rs := [4]) (by kernel_rfl) (by simp) (AllReadyH.cons rfl (fun K hK => ?_) AllReadyH.nil)
        go_simp
        go_at_call 19
        refine (purse_0 va86).mono ?_
        rintro x va93 ⟨pu, rfl, hpu, lpu, Ba95⟩
        have ba94 := ba87.trans (Ba95.mono ba87.size)
        have ha96 := ha89.bel Ba95
        have ha97 := ha90
        have ha98 := ha88.bel Ba95
        have ha99 := ha91
        have ha100 := ha92
        have ha101 : PuZ va93 pu 0 0 := hpu
        have ha102 : V.heap.size ≤ pu := Nat.le_trans ba87.size lpu
        refine hK.out _ _ (And.intro ((HR.out.bel ba94).at_ 1) (HR.out.bel ba94).rng) (fun hHeld => ?_)
        clear hK K
        try simp only [Act.put, List.getElem_toArray, List.getElem_cons_succ, List.getElem_cons_zero, List.setIfInBounds_toArray, List.set_cons_zero, List.set_cons_succ]
        refine wpAnyH_ready (rs := [7]) (by kernel_rfl) (by simp) (AllReadyH.cons rfl (fun K hK => ?_) AllReadyH.nil)
        go_simp
        go_at_call 20
        refine (HTL.out va93).mono ?_
        rintro x va103 ⟨ti, rfl, hti, lti, Ba105⟩
        have ba104 := ba94.trans (Ba105.mono ba94.size)
        have ha106 := ha96.bel Ba105
        have ha107 := ha97
        have ha108 := ha98.bel Ba105
        have ha109 := ha99
        have ha110 := ha100
        have ha111 := CR.bel ha101 Ba105
        have ha112 := ha102
        have ha113 : TiZ va103 ti wi wi 0 0 := hti
        have ha114 : V.heap.size ≤ ti := Nat.le_trans ba94.size lti
        refine hK.out _ _ (And.intro ((HR.out.bel ba104).at_ 1) (HR.out.bel ba104).rng) (fun hHeld => ?_)
        clear hK K
        try simp only [Act.put, List.getElem_toArray, List.getElem_cons_succ, List.getElem_cons_zero, List.setIfInBounds_toArray, List.set_cons_zero, List.set_cons_succ]
        refine wpAnyH_take (i := 8) (v := .agg #[.bool sv, .int .u64 (a : Int), .int .u64 (b : Int), .int .u64 (c : Int), .int .u64 (d : Int), .int .u64 0, .int .u64 0, .int .u64 0, .int .u64 0, .map (some ml), .map (some ms), .pointer (some ⟨pu, 0, none⟩), .pointer (some ⟨ti, 0, none⟩), .int .i64 0, .slice none 0 0]) rfl (by kernel_rfl) (by kernel_rfl) (by kernel_rfl) (fun _ _ _ h => h) (Or.inl ⟨by rfl, fun w h => by go_simp⟩) hHeld ?_
        try simp only [Act.put, List.getElem_toArray, List.getElem_cons_succ, List.getElem_cons_zero, List.setIfInBounds_toArray, List.set_cons_zero, List.set_cons_succ]
        exact hka.out va103 ml ms pu ti ⟨ba104, ha108, ha106, ha111, ha113, ha110, ha109, ha107, ha112, ha114⟩
      case qa4b =>
        go_simp
        go_at_call 19
        refine (purse_0 va82).mono ?_
        rintro x va115 ⟨pu, rfl, hpu, lpu, Ba117⟩
        have ba116 := ba83.trans (Ba117.mono ba83.size)
        have ha118 := ha84.bel Ba117
        have ha119 := ha85
        have ha120 : PuZ va115 pu 0 0 := hpu
        have ha121 : V.heap.size ≤ pu := Nat.le_trans ba83.size lpu
        refine hK.out _ _ (And.intro ((HR.out.bel ba116).at_ 1) (HR.out.bel ba116).rng) (fun hHeld => ?_)
        clear hK K
        try simp only [Act.put, List.getElem_toArray, List.getElem_cons_succ, List.getElem_cons_zero, List.setIfInBounds_toArray, List.set_cons_zero, List.set_cons_succ]
        refine wpAnyH_ready (rs := [2, 7]) (by kernel_rfl) (by simp) (AllReadyH.cons rfl (fun K hK => ?qa5a) (AllReadyH.cons rfl (fun K hK => ?qa5b) AllReadyH.nil))
        case qa5a =>
          go_simp
          have ba123 := ba116.alloc ba116.size (.map #[] 0)
          have ha124 : LM (va115.alloc (.map #[] 0)) va115.heap.size 0 (fun _ => none) := LM.made _
          have ha125 := ha118.bel (below_alloc _ (.map #[] 0))
          have ha126 := ha119
          have ha127 := CR.bel ha120 (below_alloc _ (.map #[] 0))
          have ha128 := ha121
          refine hK.out _ _ (And.intro ((HR.out.bel ba123).at_ 1) (HR.out.bel ba123).rng) (fun hHeld => ?_)
          clear hK K
          try simp only [Act.put, List.getElem_toArray, List.getElem_cons_succ, List.getElem_cons_zero, List.setIfInBounds_toArray, List.set_cons_zero, List.set_cons_succ]
          generalize (World.alloc _ _) = va122 at *
          obtain ⟨ml, hgml, ha129, ha130⟩ : ∃ g, va115.heap.size = g ∧ V.heap.size ≤ g ∧ g ≠ ms := ⟨_, rfl, ba116.size, Nat.ne_of_gt (SM.lt ha118)⟩
          rw [hgml] at ha124 ⊢
          refine wpAnyH_ready (rs := [7]) (by kernel_rfl) (by simp) (AllReadyH.cons rfl (fun K hK => ?_) AllReadyH.nil)
          go_simp
          go_at_call 20
          refine (HTL.out va122).mono ?_
          rintro x va131 ⟨ti, rfl, hti, lti, Ba133⟩
          have ba132 := ba123.trans (Ba133.mono ba123.size)
          have ha134 := ha125.bel Ba133
          have ha135 := ha126
          have ha136 := CR.bel ha127 Ba133
          have ha137 := ha128
          have ha138 := ha124.bel Ba133
          have ha139 := ha129
          have ha140 := ha130
          have ha141 : TiZ va131 ti wi wi 0 0 := hti
          have ha142 : V.heap.size ≤ ti := Nat.le_trans ba123.size lti
          refine hK.out _ _ (And.intro ((HR.out.bel ba132).at_ 1) (HR.out.bel ba132).rng) (fun hHeld => ?_)
          clear hK K
          try simp only [Act.put, List.getElem_toArray, List.getElem_cons_succ, List.getElem_cons_zero, List.setIfInBounds_toArray, List.set_cons_zero, List.set_cons_succ]
          refine wpAnyH_take (i := 8) (v := .agg #[.bool sv, .int .u64 (a : Int), .int .u64 (b : Int), .int .u64 (c : Int), .int .u64 (d : Int), .int .u64 0, .int .u64 0, .int .u64 0, .int .u64 0, .map (some ml), .map (some ms), .pointer (some ⟨pu, 0, none⟩), .pointer (some ⟨ti, 0, none⟩), .int .i64 0, .slice none 0 0]) rfl (by kernel_rfl) (by kernel_rfl) (by kernel_rfl) (fun _ _ _ h => h) (Or.inl ⟨by rfl, fun w h => by go_simp⟩) hHeld ?_
          try simp only [Act.put, List.getElem_toArray, List.getElem_cons_succ, List.getElem_cons_zero, List.setIfInBounds_toArray, List.set_cons_zero, List.set_cons_succ]
          exact hka.out va131 ml ms pu ti ⟨ba132, ha138, ha134, ha136, ha141, ha140, ha139, ha135, ha137, ha142⟩
        case qa5b =>
          go_simp
          go_at_call 20
          refine (HTL.out va115).mono ?_
          rintro x va143 ⟨ti, rfl, hti, lti, Ba145⟩
          have ba144 := ba116.trans (Ba145.mono ba116.size)
          have ha146 := ha118.bel Ba145
          have ha147 := ha119
          have ha148 := CR.bel ha120 Ba145
          have ha149 := ha121
          have ha150 : TiZ va143 ti wi wi 0 0 := hti
          have ha151 : V.heap.size ≤ ti := Nat.le_trans ba116.size lti
          refine hK.out _ _ (And.intro ((HR.out.bel ba144).at_ 1) (HR.out.bel ba144).rng) (fun hHeld => ?_)
          clear hK K
          try simp only [Act.put, List.getElem_toArray, List.getElem_cons_succ, List.getElem_cons_zero, List.setIfInBounds_toArray, List.set_cons_zero, List.set_cons_succ]
          refine wpAnyH_ready (rs := [2]) (by kernel_rfl) (by simp) (AllReadyH.cons rfl (fun K hK => ?_) AllReadyH.nil)
          go_simp
          have ba153 := ba144.alloc ba144.size (.map #[] 0)
          have ha154 : LM (va143.alloc (.map #[] 0)) va143.heap.size 0 (fun _ => none) := LM.made _
          have ha155 := ha146.bel (below_alloc _ (.map #[] 0))
          have ha156 := ha147
          have ha157 := CR.bel ha148 (below_alloc _ (.map #[] 0))
          have ha158 := ha149
          have ha159 := CR.bel ha150 (below_alloc _ (.map #[] 0))
          have ha160 := ha151
          refine hK.out _ _ (And.intro ((HR.out.bel ba153).at_ 1) (HR.out.bel ba153).rng) (fun hHeld => ?_)
          clear hK K
          try simp only [Act.put, List.getElem_toArray, List.getElem_cons_succ, List.getElem_cons_zero, List.setIfInBounds_toArray, List.set_cons_zero, List.set_cons_succ]
          generalize (World.alloc _ _) = va152 at *
          obtain ⟨ml, hgml, ha161, ha162⟩ : ∃ g, va143.heap.size = g ∧ V.heap.size ≤ g ∧ g ≠ ms := ⟨_, rfl, ba144.size, Nat.ne_of_gt (SM.lt ha146)⟩
          rw [hgml] at ha154 ⊢
          refine wpAnyH_take (i := 8) (v := .agg #[.bool sv, .int .u64 (a : Int), .int .u64 (b : Int), .int .u64 (c : Int), .int .u64 (d : Int), .int .u64 0, .int .u64 0, .int .u64 0, .int .u64 0, .map (some ml), .map (some ms), .pointer (some ⟨pu, 0, none⟩), .pointer (some ⟨ti, 0, none⟩), .int .i64 0, .slice none 0 0]) rfl (by kernel_rfl) (by kernel_rfl) (by kernel_rfl) (fun _ _ _ h => h) (Or.inl ⟨by rfl, fun w h => by go_simp⟩) hHeld ?_
          try simp only [Act.put, List.getElem_toArray, List.getElem_cons_succ, List.getElem_cons_zero, List.setIfInBounds_toArray, List.set_cons_zero, List.set_cons_succ]
          exact hka.out va152 ml ms pu ti ⟨ba153, ha154, ha155, ha157, ha159, ha162, ha161, ha156, ha158, ha160⟩
    case qa1c =>
      go_simp
      go_at_call 19
      refine (purse_0 V).mono ?_
      rintro x va163 ⟨pu, rfl, hpu, lpu, Ba165⟩
      have ba164 := b0.trans (Ba165.mono b0.size)
      have ha166 : PuZ va163 pu 0 0 := hpu
      have ha167 : V.heap.size ≤ pu := Nat.le_trans b0.size lpu
      refine hK.out _ _ (And.intro ((HR.out.bel ba164).at_ 1) (HR.out.bel ba164).rng) (fun hHeld => ?_)
      clear hK K
      try simp only [Act.put, List.getElem_toArray, List.getElem_cons_succ, List.getElem_cons_zero, List.setIfInBounds_toArray, List.set_cons_zero, List.set_cons_succ]
      refine wpAnyH_ready (rs := [2, 3, 7]) (by kernel_rfl) (by simp) (AllReadyH.cons rfl (fun K hK => ?qa6a) (AllReadyH.cons rfl (fun K hK => ?qa6b) (AllReadyH.cons rfl (fun K hK => ?qa6c) AllReadyH.nil)))
      case qa6a =>
        go_simp
        have ba169 := ba164.alloc ba164.size (.map #[] 0)
        have ha170 : LM (va163.alloc (.map #[] 0)) va163.heap.size 0 (fun _ => none) := LM.made _
        have ha171 := CR.bel ha166 (below_alloc _ (.map #[] 0))
        have ha172 := ha167
        refine hK.out _ _ (And.intro ((HR.out.bel ba169).at_ 1) (HR.out.bel ba169).rng) (fun hHeld => ?_)
        clear hK K
        try simp only [Act.put, List.getElem_toArray, List.getElem_cons_succ, List.getElem_cons_zero, List.setIfInBounds_toArray, List.set_cons_zero, List.set_cons_succ]
        generalize (World.alloc _ _) = va168 at *
        obtain ⟨ml, hgml, ha173⟩ : ∃ g, va163.heap.size = g ∧ V.heap.size ≤ g := ⟨_, rfl, ba164.size⟩
        rw [hgml] at ha170 ⊢
        refine wpAnyH_ready (rs := [3, 7]) (by kernel_rfl) (by simp) (AllReadyH.cons rfl (fun K hK => ?qa7a) (AllReadyH.cons rfl (fun K hK => ?qa7b) AllReadyH.nil))
        case qa7a =>
          go_simp
          have ba175 := ba169.alloc ba169.size (.map #[] 0)
          have ha176 : SM (va168.alloc (.map #[] 0)) va168.heap.size 0 (fun _ _ => none) := SM.made _
          have ha177 := CR.bel ha171 (below_alloc _ (.map #[] 0))
          have ha178 := ha172
          have ha179 := ha170.bel (below_alloc _ (.map #[] 0))
          have ha180 := ha173
          refine hK.out _ _ (And.intro ((HR.out.bel ba175).at_ 1) (HR.out.bel ba175).rng) (fun hHeld => ?_)
          clear hK K
          try simp only [Act.put, List.getElem_toArray, List.getElem_cons_succ, List.getElem_cons_zero, List.setIfInBounds_toArray, List.set_cons_zero, List.set_cons_succ]
          generalize (World.alloc _ _) = va174 at *
          obtain ⟨ms, hgms, ha181, ha182⟩ : ∃ g, va168.heap.size = g ∧ V.heap.size ≤ g ∧ ml ≠ g := ⟨_, rfl, ba169.size, Nat.ne_of_lt (LM.lt ha170)⟩
          rw [hgms] at ha176 ⊢
          refine wpAnyH_ready (rs := [7]) (by kernel_rfl) (by simp) (AllReadyH.cons rfl (fun K hK => ?_) AllReadyH.nil)
          go_simp
          go_at_call 20
          refine (HTL.out va174).mono ?_
          rintro x va183 ⟨ti, rfl, hti, lti, Ba185⟩
          have ba184 := ba175.trans (Ba185.mono ba175.size)
          have ha186 := CR.bel ha177 Ba185
          have ha187 := ha178
          have ha188 := ha179.bel Ba185
          have ha189 := ha180
          have ha190 := ha176.bel Ba185
          have ha191 := ha181
          have ha192 := ha182
          have ha193 : TiZ va183 ti wi wi 0 0 := hti
          have ha194 : V.heap.size ≤ ti := Nat.le_trans ba175.size lti
          refine hK.out _ _ (And.intro ((HR.out.bel ba184).at_ 1) (HR.out.bel ba184).rng) (fun hHeld => ?_)
          clear hK K
          try simp only [Act.put, List.getElem_toArray, List.getElem_cons_succ, List.getElem_cons_zero, List.setIfInBounds_toArray, List.set_cons_zero, List.set_cons_succ]
          refine wpAnyH_take (i := 8) (v := .agg #[.bool sv, .int .u64 (a : Int), .int .u64 (b : Int), .int .u64 (c : Int), .int .u64 (d : Int), .int .u64 0, .int .u64 0, .int .u64 0, .int .u64 0, .map (some ml), .map (some ms), .pointer (some ⟨pu, 0, none⟩), .pointer (some ⟨ti, 0, none⟩), .int .i64 0, .slice none 0 0]) rfl (by kernel_rfl) (by kernel_rfl) (by kernel_rfl) (fun _ _ _ h => h) (Or.inl ⟨by rfl, fun w h => by go_simp⟩) hHeld ?_
          try simp only [Act.put, List.getElem_toArray, List.getElem_cons_succ, List.getElem_cons_zero, List.setIfInBounds_toArray, List.set_cons_zero, List.set_cons_succ]
          exact hka.out va183 ml ms pu ti ⟨ba184, ha188, ha190, ha186, ha193, ha192, ha189, ha191, ha187, ha194⟩
        case qa7b =>
          go_simp
          go_at_call 20
          refine (HTL.out va168).mono ?_
          rintro x va195 ⟨ti, rfl, hti, lti, Ba197⟩
          have ba196 := ba169.trans (Ba197.mono ba169.size)
          have ha198 := CR.bel ha171 Ba197
          have ha199 := ha172
          have ha200 := ha170.bel Ba197
          have ha201 := ha173
          have ha202 : TiZ va195 ti wi wi 0 0 := hti
          have ha203 : V.heap.size ≤ ti := Nat.le_trans ba169.size lti
          refine hK.out _ _ (And.intro ((HR.out.bel ba196).at_ 1) (HR.out.bel ba196).rng) (fun hHeld => ?_)
          clear hK K
          try simp only [Act.put, List.getElem_toArray, List.getElem_cons_succ, List.getElem_cons_zero, List.setIfInBounds_toArray, List.set_cons_zero, List.set_cons_succ]
          refine wpAnyH_ready (rs := [3]) (by kernel_rfl) (by simp) (AllReadyH.cons rfl (fun K hK => ?_) AllReadyH.nil)
          go_simp
          have ba205 := ba196.alloc ba196.size (.map #[] 0)
          have ha206 : SM (va195.alloc (.map #[] 0)) va195.heap.size 0 (fun _ _ => none) := SM.made _
          have ha207 := CR.bel ha198 (below_alloc _ (.map #[] 0))
          have ha208 := ha199
          have ha209 := ha200.bel (below_alloc _ (.map #[] 0))
          have ha210 := ha201
          have ha211 := CR.bel ha202 (below_alloc _ (.map #[] 0))
          have ha212 := ha203
          refine hK.out _ _ (And.intro ((HR.out.bel ba205).at_ 1) (HR.out.bel ba205).rng) (fun hHeld => ?_)
          clear hK K
          try simp only [Act.put, List.getElem_toArray, List.getElem_cons_succ, List.getElem_cons_zero, List.setIfInBounds_toArray, List.set_cons_zero, List.set_cons_succ]
          generalize (World.alloc _ _) = va204 at *
          obtain ⟨ms, hgms, ha213, ha214⟩ : ∃ g, va195.heap.size = g ∧ V.heap.size ≤ g ∧ ml ≠ g := ⟨_, rfl, ba196.size, Nat.ne_of_lt (LM.lt ha200)⟩
          rw [hgms] at ha206 ⊢
          refine wpAnyH_take (i := 8) (v := .agg #[.bool sv, .int .u64 (a : Int), .int .u64 (b : Int), .int .u64 (c : Int), .int .u64 (d : Int), .int .u64 0, .int .u64 0, .int .u64 0, .int .u64 0, .map (some ml), .map (some ms), .pointer (some ⟨pu, 0, none⟩), .pointer (some ⟨ti, 0, none⟩), .int .i64 0, .slice none 0 0]) rfl (by kernel_rfl) (by kernel_rfl) (by kernel_rfl) (fun _ _ _ h => h) (Or.inl ⟨by rfl, fun w h => by go_simp⟩) hHeld ?_
          try simp only [Act.put, List.getElem_toArray, List.getElem_cons_succ, List.getElem_cons_zero, List.setIfInBounds_toArray, List.set_cons_zero, List.set_cons_succ]
          exact hka.out va204 ml ms pu ti ⟨ba205, ha209, ha206, ha207, ha211, ha214, ha210, ha213, ha208, ha212⟩
      case qa6b =>
        go_simp
        have ba216 := ba164.alloc ba164.size (.map #[] 0)
        have ha217 : SM (va163.alloc (.map #[] 0)) va163.heap.size 0 (fun _ _ => none) := SM.made _
        have ha218 := CR.bel ha166 (below_alloc _ (.map #[] 0))
        have ha219 := ha167
        refine hK.out _ _ (And.intro ((HR.out.bel ba216).at_ 1) (HR.out.bel ba216).rng) (fun hHeld => ?_)
        clear hK K
        try simp only [Act.put, List.getElem_toArray, List.getElem_cons_succ, List.getElem_cons_zero, List.setIfInBounds_toArray, List.set_cons_zero, List.set_cons_succ]
        generalize (World.alloc _ _) = va215 at *
        obtain ⟨ms, hgms, ha220⟩ : ∃ g, va163.heap.size = g ∧ V.heap.size ≤ g := ⟨_, rfl, ba164.size⟩
        rw [hgms] at ha217 ⊢
        refine wpAnyH_ready (rs := [2, 7]) (by kernel_rfl) (by simp) (AllReadyH.cons rfl (fun K hK => ?qa8a) (AllReadyH.cons rfl (fun K hK => ?qa8b) AllReadyH.nil))
        case qa8a =>
          go_simp
          have ba222 := ba216.alloc ba216.size (.map #[] 0)
          have ha223 : LM (va215.alloc (.map #[] 0)) va215.heap.size 0 (fun _ => none) := LM.made _
          have ha224 := CR.bel ha218 (below_alloc _ (.map #[] 0))
          have ha225 := ha219
          have ha226 := ha217.bel (below_alloc _ (.map #[] 0))
          have ha227 := ha220
          refine hK.out _ _ (And.intro ((HR.out.bel ba222).at_ 1) (HR.out.bel ba222).rng) (fun hHeld => ?_)
          clear hK K
          try simp only [Act.put, List.getElem_toArray, List.getElem_cons_succ, List.getElem_cons_zero, List.setIfInBounds_toArray, List.set_cons_zero, List.set_cons_succ]
          generalize (World.alloc _ _) = va221 at *
          obtain ⟨ml, hgml, ha228, ha229⟩ : ∃ g, va215.heap.size = g ∧ V.heap.size ≤ g ∧ g ≠ ms := ⟨_, rfl, ba216.size, Nat.ne_of_gt (SM.lt ha217)⟩
          rw [hgml] at ha223 ⊢
          refine wpAnyH_ready (rs := [7]) (by kernel_rfl) (by simp) (AllReadyH.cons rfl (fun K hK => ?_) AllReadyH.nil)
          go_simp
          go_at_call 20
          refine (HTL.out va221).mono ?_
          rintro x va230 ⟨ti, rfl, hti, lti, Ba232⟩
          have ba231 := ba222.trans (Ba232.mono ba222.size)
          have ha233 := CR.bel ha224 Ba232
          have ha234 := ha225
          have ha235 := ha226.bel Ba232
          have ha236 := ha227
          have ha237 := ha223.bel Ba232
          have ha238 := ha228
          have ha239 := ha229
          have ha240 : TiZ va230 ti wi wi 0 0 := hti
          have ha241 : V.heap.size ≤ ti := Nat.le_trans ba222.size lti
          refine hK.out _ _ (And.intro ((HR.out.bel ba231).at_ 1) (HR.out.bel ba231).rng) (fun hHeld => ?_)
          clear hK K
          try simp only [Act.put, List.getElem_toArray, List.getElem_cons_succ, List.getElem_cons_zero, List.setIfInBounds_toArray, List.set_cons_zero, List.set_cons_succ]
          refine wpAnyH_take (i := 8) (v := .agg #[.bool sv, .int .u64 (a : Int), .int .u64 (b : Int), .int .u64 (c : Int), .int .u64 (d : Int), .int .u64 0, .int .u64 0, .int .u64 0, .int .u64 0, .map (some ml), .map (some ms), .pointer (some ⟨pu, 0, none⟩), .pointer (some ⟨ti, 0, none⟩), .int .i64 0, .slice none 0 0]) rfl (by kernel_rfl) (by kernel_rfl) (by kernel_rfl) (fun _ _ _ h => h) (Or.inl ⟨by rfl, fun w h => by go_simp⟩) hHeld ?_
          try simp only [Act.put, List.getElem_toArray, List.getElem_cons_succ, List.getElem_cons_zero, List.setIfInBounds_toArray, List.set_cons_zero, List.set_cons_succ]
          exact hka.out va230 ml ms pu ti ⟨ba231, ha237, ha235, ha233, ha240, ha239, ha238, ha236, ha234, ha241⟩
        case qa8b =>
          go_simp
          go_at_call 20
          refine (HTL.out va215).mono ?_
          rintro x va242 ⟨ti, rfl, hti, lti, Ba244⟩
          have ba243 := ba216.trans (Ba244.mono ba216.size)
          have ha245 := CR.bel ha218 Ba244
          have ha246 := ha219
          have ha247 := ha217.bel Ba244
          have ha248 := ha220
          have ha249 : TiZ va242 ti wi wi 0 0 := hti
          have ha250 : V.heap.size ≤ ti := Nat.le_trans ba216.size lti
          refine hK.out _ _ (And.intro ((HR.out.bel ba243).at_ 1) (HR.out.bel ba243).rng) (fun hHeld => ?_)
          clear hK K
          try simp only [Act.put, List.getElem_toArray, List.getElem_cons_succ, List.getElem_cons_zero, List.setIfInBounds_toArray, List.set_cons_zero, List.set_cons_succ]
          refine wpAnyH_ready (rs := [2]) (by kernel_rfl) (by simp) (AllReadyH.cons rfl (fun K hK => ?_) AllReadyH.nil)
          go_simp
          have ba252 := ba243.alloc ba243.size (.map #[] 0)
          have ha253 : LM (va242.alloc (.map #[] 0)) va242.heap.size 0 (fun _ => none) := LM.made _
          have ha254 := CR.bel ha245 (below_alloc _ (.map #[] 0))
          have ha255 := ha246
          have ha256 := ha247.bel (below_alloc _ (.map #[] 0))
          have ha257 := ha248
          have ha258 := CR.bel ha249 (below_alloc _ (.map #[] 0))
          have ha259 := ha250
          refine hK.out _ _ (And.intro ((HR.out.bel ba252).at_ 1) (HR.out.bel ba252).rng) (fun hHeld => ?_)
          clear hK K
          try simp only [Act.put, List.getElem_toArray, List.getElem_cons_succ, List.getElem_cons_zero, List.setIfInBounds_toArray, List.set_cons_zero, List.set_cons_succ]
          generalize (World.alloc _ _) = va251 at *
          obtain ⟨ml, hgml, ha260, ha261⟩ : ∃ g, va242.heap.size = g ∧ V.heap.size ≤ g ∧ g ≠ ms := ⟨_, rfl, ba243.size, Nat.ne_of_gt (SM.lt ha247)⟩
          rw [hgml] at ha253 ⊢
          refine wpAnyH_take (i := 8) (v := .agg #[.bool sv, .int .u64 (a : Int), .int .u64 (b : Int), .int .u64 (c : Int), .int .u64 (d : Int), .int .u64 0, .int .u64 0, .int .u64 0, .int .u64 0, .map (some ml), .map (some ms), .pointer (some ⟨pu, 0, none⟩), .pointer (some ⟨ti, 0, none⟩), .int .i64 0, .slice none 0 0]) rfl (by kernel_rfl) (by kernel_rfl) (by kernel_rfl) (fun _ _ _ h => h) (Or.inl ⟨by rfl, fun w h => by go_simp⟩) hHeld ?_
          try simp only [Act.put, List.getElem_toArray, List.getElem_cons_succ, List.getElem_cons_zero, List.setIfInBounds_toArray, List.set_cons_zero, List.set_cons_succ]
          exact hka.out va251 ml ms pu ti ⟨ba252, ha253, ha256, ha254, ha258, ha261, ha260, ha257, ha255, ha259⟩
      case qa6c =>
        go_simp
        go_at_call 20
        refine (HTL.out va163).mono ?_
        rintro x va262 ⟨ti, rfl, hti, lti, Ba264⟩
        have ba263 := ba164.trans (Ba264.mono ba164.size)
        have ha265 := CR.bel ha166 Ba264
        have ha266 := ha167
        have ha267 : TiZ va262 ti wi wi 0 0 := hti
        have ha268 : V.heap.size ≤ ti := Nat.le_trans ba164.size lti
        refine hK.out _ _ (And.intro ((HR.out.bel ba263).at_ 1) (HR.out.bel ba263).rng) (fun hHeld => ?_)
        clear hK K
        try simp only [Act.put, List.getElem_toArray, List.getElem_cons_succ, List.getElem_cons_zero, List.setIfInBounds_toArray, List.set_cons_zero, List.set_cons_succ]
        refine wpAnyH_ready (rs := [2, 3]) (by kernel_rfl) (by simp) (AllReadyH.cons rfl (fun K hK => ?qa9a) (AllReadyH.cons rfl (fun K hK => ?qa9b) AllReadyH.nil))
        case qa9a =>
          go_simp
          have ba270 := ba263.alloc ba263.size (.map #[] 0)
          have ha271 : LM (va262.alloc (.map #[] 0)) va262.heap.size 0 (fun _ => none) := LM.made _
          have ha272 := CR.bel ha265 (below_alloc _ (.map #[] 0))
          have ha273 := ha266
          have ha274 := CR.bel ha267 (below_alloc _ (.map #[] 0))
          have ha275 := ha268
          refine hK.out _ _ (And.intro ((HR.out.bel ba270).at_ 1) (HR.out.bel ba270).rng) (fun hHeld => ?_)
          clear hK K
          try simp only [Act.put, List.getElem_toArray, List.getElem_cons_succ, List.getElem_cons_zero, List.setIfInBounds_toArray, List.set_cons_zero, List.set_cons_succ]
          generalize (World.alloc _ _) = va269 at *
          obtain ⟨ml, hgml, ha276⟩ : ∃ g, va262.heap.size = g ∧ V.heap.size ≤ g := ⟨_, rfl, ba263.size⟩
          rw [hgml] at ha271 ⊢
          refine wpAnyH_ready (rs := [3]) (by kernel_rfl) (by simp) (AllReadyH.cons rfl (fun K hK => ?_) AllReadyH.nil)
          go_simp
          have ba278 := ba270.alloc ba270.size (.map #[] 0)
          have ha279 : SM (va269.alloc (.map #[] 0)) va269.heap.size 0 (fun _ _ => none) := SM.made _
          have ha280 := CR.bel ha272 (below_alloc _ (.map #[] 0))
          have ha281 := ha273
          have ha282 := CR.bel ha274 (below_alloc _ (.map #[] 0))
          have ha283 := ha275
          have ha284 := ha271.bel (below_alloc _ (.map #[] 0))
          have ha285 := ha276
          refine hK.out _ _ (And.intro ((HR.out.bel ba278).at_ 1) (HR.out.bel ba278).rng) (fun hHeld => ?_)
          clear hK K
          try simp only [Act.put, List.getElem_toArray, List.getElem_cons_succ, List.getElem_cons_zero, List.setIfInBounds_toArray, List.set_cons_zero, List.set_cons_succ]
          generalize (World.alloc _ _) = va277 at *
          obtain ⟨ms, hgms, ha286, ha287⟩ : ∃ g, va269.heap.size = g ∧ V.heap.size ≤ g ∧ ml ≠ g := ⟨_, rfl, ba270.size, Nat.ne_of_lt (LM.lt ha271)⟩
          rw [hgms] at ha279 ⊢
          refine wpAnyH_take (i := 8) (v := .agg #[.bool sv, .int .u64 (a : Int), .int .u64 (b : Int), .int .u64 (c : Int), .int .u64 (d : Int), .int .u64 0, .int .u64 0, .int .u64 0, .int .u64 0, .map (some ml), .map (some ms), .pointer (some ⟨pu, 0, none⟩), .pointer (some ⟨ti, 0, none⟩), .int .i64 0, .slice none 0 0]) rfl (by kernel_rfl) (by kernel_rfl) (by kernel_rfl) (fun _ _ _ h => h) (Or.inl ⟨by rfl, fun w h => by go_simp⟩) hHeld ?_
          try simp only [Act.put, List.getElem_toArray, List.getElem_cons_succ, List.getElem_cons_zero, List.setIfInBounds_toArray, List.set_cons_zero, List.set_cons_succ]
          exact hka.out va277 ml ms pu ti ⟨ba278, ha284, ha279, ha280, ha282, ha287, ha285, ha286, ha281, ha283⟩
        case qa9b =>
          go_simp
          have ba289 := ba263.alloc ba263.size (.map #[] 0)
          have ha290 : SM (va262.alloc (.map #[] 0)) va262.heap.size 0 (fun _ _ => none) := SM.made _
          have ha291 := CR.bel ha265 (below_alloc _ (.map #[] 0))
          have ha292 := ha266
          have ha293 := CR.bel ha267 (below_alloc _ (.map #[] 0))
          have ha294 := ha268
          refine hK.out _ _ (And.intro ((HR.out.bel ba289).at_ 1) (HR.out.bel ba289).rng) (fun hHeld => ?_)
          clear hK K
          try simp only [Act.put, List.getElem_toArray, List.getElem_cons_succ, List.getElem_cons_zero, List.setIfInBounds_toArray, List.set_cons_zero, List.set_cons_succ]
          generalize (World.alloc _ _) = va288 at *
          obtain ⟨ms, hgms, ha295⟩ : ∃ g, va262.heap.size = g ∧ V.heap.size ≤ g := ⟨_, rfl, ba263.size⟩
          rw [hgms] at ha290 ⊢
          refine wpAnyH_ready (rs := [2]) (by kernel_rfl) (by simp) (AllReadyH.cons rfl (fun K hK => ?_) AllReadyH.nil)
          go_simp
          have ba297 := ba289.alloc ba289.size (.map #[] 0)
          have ha298 : LM (va288.alloc (.map #[] 0)) va288.heap.size 0 (fun _ => none) := LM.made _
          have ha299 := CR.bel ha291 (below_alloc _ (.map #[] 0))
          have ha300 := ha292
          have ha301 := CR.bel ha293 (below_alloc _ (.map #[] 0))
          have ha302 := ha294
          have ha303 := ha290.bel (below_alloc _ (.map #[] 0))
          have ha304 := ha295
          refine hK.out _ _ (And.intro ((HR.out.bel ba297).at_ 1) (HR.out.bel ba297).rng) (fun hHeld => ?_)
          clear hK K
          try simp only [Act.put, List.getElem_toArray, List.getElem_cons_succ, List.getElem_cons_zero, List.setIfInBounds_toArray, List.set_cons_zero, List.set_cons_succ]
          generalize (World.alloc _ _) = va296 at *
          obtain ⟨ml, hgml, ha305, ha306⟩ : ∃ g, va288.heap.size = g ∧ V.heap.size ≤ g ∧ g ≠ ms := ⟨_, rfl, ba289.size, Nat.ne_of_gt (SM.lt ha290)⟩
          rw [hgml] at ha298 ⊢
          refine wpAnyH_take (i := 8) (v := .agg #[.bool sv, .int .u64 (a : Int), .int .u64 (b : Int), .int .u64 (c : Int), .int .u64 (d : Int), .int .u64 0, .int .u64 0, .int .u64 0, .int .u64 0, .map (some ml), .map (some ms), .pointer (some ⟨pu, 0, none⟩), .pointer (some ⟨ti, 0, none⟩), .int .i64 0, .slice none 0 0]) rfl (by kernel_rfl) (by kernel_rfl) (by kernel_rfl) (fun _ _ _ h => h) (Or.inl ⟨by rfl, fun w h => by go_simp⟩) hHeld ?_
          try simp only [Act.put, List.getElem_toArray, List.getElem_cons_succ, List.getElem_cons_zero, List.setIfInBounds_toArray, List.set_cons_zero, List.set_cons_succ]
          exact hka.out va296 ml ms pu ti ⟨ba297, ha298, ha303, ha299, ha301, ha306, ha305, ha304, ha300, ha302⟩
  case resta =>
    rintro va ml ms pu ti ⟨ba, ha_M, ha_S, ha_P, ha_T, ha_N, ha_L1, ha_L2, ha_L3, ha_L4⟩
    have hHeld := And.intro ((HR.out.bel ba).at_ 1) (HR.out.bel ba).rng
    refine wpAnyH_ready (rs := [9]) (by kernel_rfl) (by simp) (AllReadyH.cons rfl (fun K hK => ?_) AllReadyH.nil)
    go_simp
    have ba308 := ba.alloc ba.size (.cells #[.bool sv, .int .u64 (a : Int), .int .u64 (b : Int), .int .u64 (c : Int), .int .u64 (d : Int), .int .u64 0, .int .u64 0, .int .u64 0, .int .u64 0, .map (some ml), .map (some ms), .pointer (some ⟨pu, 0, none⟩), .pointer (some ⟨ti, 0, none⟩), .int .i64 0, .slice none 0 0] 64)
    have ha309 : CR (va.alloc (.cells #[.bool sv, .int .u64 (a : Int), .int .u64 (b : Int), .int .u64 (c : Int), .int .u64 (d : Int), .int .u64 0, .int .u64 0, .int .u64 0, .int .u64 0, .map (some ml), .map (some ms), .pointer (some ⟨pu, 0, none⟩), .pointer (some ⟨ti, 0, none⟩), .int .i64 0, .slice none 0 0] 64)) va.heap.size 64 [.bool sv, .int .u64 (a : Int), .int .u64 (b : Int), .int .u64 (c : Int), .int .u64 (d : Int), .int .u64 0, .int .u64 0, .int .u64 0, .int .u64 0, .map (some ml), .map (some ms), .pointer (some ⟨pu, 0, none⟩), .pointer (some ⟨ti, 0, none⟩), .int .i64 0, .slice none 0 0] := CR.new _ _ _
    have ha310 := ha_M.bel (below_alloc _ (.cells #[.bool sv, .int .u64 (a : Int), .int .u64 (b : Int), .int .u64 (c : Int), .int .u64 (d : Int), .int .u64 0, .int .u64 0, .int .u64 0, .int .u64 0, .map (some ml), .map (some ms), .pointer (some ⟨pu, 0, none⟩), .pointer (some ⟨ti, 0, none⟩), .int .i64 0, .slice none 0 0] 64))
    have ha311 := ha_S.bel (below_alloc _ (.cells #[.bool sv, .int .u64 (a : Int), .int .u64 (b : Int), .int .u64 (c : Int), .int .u64 (d : Int), .int .u64 0, .int .u64 0, .int .u64 0, .int .u64 0, .map (some ml), .map (some ms), .pointer (some ⟨pu, 0, none⟩), .pointer (some ⟨ti, 0, none⟩), .int .i64 0, .slice none 0 0] 64))
    have ha312 := CR.bel ha_P (below_alloc _ (.cells #[.bool sv, .int .u64 (a : Int), .int .u64 (b : Int), .int .u64 (c : Int), .int .u64 (d : Int), .int .u64 0, .int .u64 0, .int .u64 0, .int .u64 0, .map (some ml), .map (some ms), .pointer (some ⟨pu, 0, none⟩), .pointer (some ⟨ti, 0, none⟩), .int .i64 0, .slice none 0 0] 64))
    have ha313 := CR.bel ha_T (below_alloc _ (.cells #[.bool sv, .int .u64 (a : Int), .int .u64 (b : Int), .int .u64 (c : Int), .int .u64 (d : Int), .int .u64 0, .int .u64 0, .int .u64 0, .int .u64 0, .map (some ml), .map (some ms), .pointer (some ⟨pu, 0, none⟩), .pointer (some ⟨ti, 0, none⟩), .int .i64 0, .slice none 0 0] 64))
    have ha314 := ha_N
    have ha315 := ha_L1
    have ha316 := ha_L2
    have ha317 := ha_L3
    have ha318 := ha_L4
    refine hK.out _ _ (And.intro ((HR.out.bel ba308).at_ 1) (HR.out.bel ba308).rng) (fun hHeld => ?_)
    clear hK K
    try simp only [Act.put, List.getElem_toArray, List.getElem_cons_succ, List.getElem_cons_zero, List.setIfInBounds_toArray, List.set_cons_zero, List.set_cons_succ]
    generalize (World.alloc _ _) = va307 at *
    obtain ⟨g, hgg, ha319⟩ : ∃ g, va.heap.size = g ∧ V.heap.size ≤ g := ⟨_, rfl, ba.size⟩
    rw [hgg] at ha309 ⊢
    refine wpAnyH_take (i := 10) (v := .pointer (some ⟨g, 0, none⟩)) rfl (by kernel_rfl) (by kernel_rfl) (by kernel_rfl) (fun _ _ _ h => h) (Or.inl ⟨by rfl, fun w h => by go_simp⟩) hHeld ?_
    try simp only [Act.put, List.getElem_toArray, List.getElem_cons_succ, List.getElem_cons_zero, List.setIfInBounds_toArray, List.set_cons_zero, List.set_cons_succ]
    refine wpAnyH_done (by kernel_rfl) ?_ _
    try simp only [Act.put, List.getElem_toArray, List.getElem_cons_succ, List.getElem_cons_zero]
    have hnw : NW w1 va307 g ml ms pu ti sv a b c d wi := ⟨HBV.out.trans (ba308.mono HBV.out.size), ha309, ha310, ha312, ha313, ha314, Nat.le_trans HBV.out.size ha315, Nat.le_trans HBV.out.size ha316, Nat.le_trans HBV.out.size ha317, Nat.le_trans HBV.out.size ha318, Nat.le_trans HBV.out.size ha319, SM.lt ha311⟩
    have HNW := Lib.hid hnw
    have HSM := Lib.hid ha311
    clear hHeld hnw ha309 ha310 ha312 ha313 ha314 ha315 ha316 ha317 ha318 ha319 ha311 ba308 hmm b0
    obtain ⟨W1, hW1⟩ : ∃ q, va307 = q := ⟨_, rfl⟩
    rw [hW1] at HNW HSM ⊢
    clear hW1
    have hqr := CR.new W1 66 keys8
    have hqb := below_alloc W1 (.cells keys8.toArray 66)
    obtain ⟨q, hq⟩ : ∃ q, W1.heap.size = q := ⟨_, rfl⟩
    rw [hq] at hqr
    obtain ⟨W2, hW2⟩ : ∃ x, W1.alloc (.cells #[.bool false, .bool false, .bool false, .bool true, .bool true, .bool false, .bool true, .bool true] 66) = x := ⟨_, rfl⟩
    have hqr' : CR W2 q 66 keys8 := by rw [← hW2]; exact hqr
    have hqb' : Below W1.heap.size W1 W2 := by rw [← hW2]; exact hqb
    have HL0 := Lib.hid (show NL w1 W2 g ml ms pu ti q sv a b c d wi 0 from ⟨HNW.out.bel hqb', Nat.zero_le _, hqr', fun _ => 0, (HSM.out.bel hqb').cast (fun x y => by simp), fun j hj => by omega, fun j k hj => by omega⟩)
    clear hqr hqb hqr' hqb' HSM HNW
    go_upto_region 3 with (fail)
    go_loopw [24] (fun s24 wr => ∃ i : Nat, s24 = .int .i64 (i : Int) ∧ NL w1 wr g ml ms pu ti q sv a b c d wi i) (fun s24 _ => match s24 with | .int _ x => (4 - x).toNat | _ => 0)
    case atStart => exact ⟨0, rfl, HL0.out⟩
    case round =>
      clear HL0 W2 hW2
      obtain ⟨i, rfl, ho⟩ := hrel
      have hi := ho.i4
      have O := Lib.hid ho
      clear ho
      obtain rfl | rfl | rfl | rfl | rfl : i = 4 ∨ i = 0 ∨ i = 1 ∨ i = 2 ∨ i = 3 := by omega
      · obtain ⟨role, Y, hz, hyn, hym, hrl⟩ := O.out.tz
        have hk4 : CR wr k 27 [.int .u64 (a : Int), .int .u64 (b : Int), .int .u64 (c : Int), .int .u64 (d : Int)] := HR1.out.keep (O.out.nw.bb.block _ HR1.out.lt)
        have HZ := Lib.hid hz
        have HK4 := Lib.hid hk4
        have HYN := Lib.hid hyn
        have HRL := Lib.hid hrl
        have Hba308 := Lib.hid O.out.nw.bb
        obtain ⟨n2, hn2⟩ : ∃ n, (!sv) = n := ⟨_, rfl⟩
        obtain ⟨C, hC⟩ : ∃ x, min c 1152921504606846976 = x := ⟨_, rfl⟩
        obtain ⟨D, hD⟩ : ∃ x, min d 1152921504606846976 = x := ⟨_, rfl⟩
        have hmn : ∀ (ts : Array TypeId) (t : TypeId) (W : World), (Builtin.min_ ts t #[.int .u64 (c : Int), .int .u64 1152921504606846976]).run Try.prog W = .ok (.int .u64 (C : Int)) W := fun ts t W => by rw [← hC]; exact min2 W ts t c 1152921504606846976
        have hmd : ∀ (ts : Array TypeId) (t : TypeId) (W : World), (Builtin.min_ ts t #[.int .u64 (d : Int), .int .u64 1152921504606846976]).run Try.prog W = .ok (.int .u64 (D : Int)) W := fun ts t W => by rw [← hD]; exact min2 W ts t d 1152921504606846976
        obtain ⟨so1, hso1⟩ : ∃ x, Y.so n2 false = x := ⟨_, rfl⟩
        obtain ⟨so2, hso2⟩ : ∃ x, Y.so n2 true = x := ⟨_, rfl⟩
        have hf := fun (x : World) (T : TaS) (z : TZ x role g T Y) (kk : CR x k 27 [.int .u64 (a : Int), .int .u64 (b : Int), .int .u64 (c : Int), .int .u64 (d : Int)]) => (⟨by have := z.row.cr.at_ 10; rw [hym] at this; exact this, kk.at_ 2, kk.at_ 3, by have := z.sm.1.choose_spec.look n2 false; rw [hym, hso1] at this; exact this, by have := z.sm.1.choose_spec.look n2 true; rw [hym, hso2] at this; exact this⟩ : x.cell? ⟨g, 10, none⟩ = some (.map (some ms)) ∧ x.cell? ⟨k, 2, none⟩ = some (.int .u64 (c : Int)) ∧ x.cell? ⟨k, 3, none⟩ = some (.int .u64 (d : Int)) ∧ (Instr.lookup 57 (.map (some ms)) (.agg #[.bool n2, .bool false]) false).run Try.prog x = .ok (.pointer (some ⟨so1, 0, none⟩)) x ∧ (Instr.lookup 57 (.map (some ms)) (.agg #[.bool n2, .bool true]) false).run Try.prog x = .ok (.pointer (some ⟨so2, 0, none⟩)) x)
        have HF := Lib.hid hf
        have HSO1 := Lib.hid hso1
        have HSO2 := Lib.hid hso2
        have HC := Lib.hid hC
        have HD := Lib.hid hD
        have HN2 := Lib.hid hn2
        clear hz hk4 hyn hrl hf hC hD hym O hi hso1 hso2
        go_upto_region 7 with (fail)
        have HZ1 := Lib.hid (HZ.out.bel (bel_drew _ wr))
        have HK1 := Lib.hid (HK4.out.bel (bel_drew _ wr))
        have hs0 := HF.out _ _ HZ1.out HK1.out
        obtain ⟨V7, hV7⟩ : ∃ x, wr.drew = x := ⟨_, rfl⟩
        rw [hV7] at HZ1 HK1
        have HB7 := Lib.hid (show Below w1.heap.size w1 V7 by rw [← hV7]; exact Hba308.out.trans ((bel_drew _ wr).mono Hba308.out.size))
        refine wp_region_held_drew (S := fun x => x.cell? ⟨g, 10, none⟩ = some (.map (some ms)) ∧ x.cell? ⟨k, 2, none⟩ = some (.int .u64 (c : Int)) ∧ x.cell? ⟨k, 3, none⟩ = some (.int .u64 (d : Int)) ∧ (Instr.lookup 57 (.map (some ms)) (.agg #[.bool n2, .bool false]) false).run Try.prog x = .ok (.pointer (some ⟨so1, 0, none⟩)) x ∧ (Instr.lookup 57 (.map (some ms)) (.agg #[.bool n2, .bool true]) false).run Try.prog x = .ok (.pointer (some ⟨so2, 0, none⟩)) x) (by kernel_rfl) hs0 (fun hHeld => ?_)
        rw [hV7] at hHeld ⊢
        clear hV7 hs0
        refine wpAnyH_take (i := 0) (v := .pointer (some ⟨g, 0, none⟩)) rfl (by kernel_rfl) (by kernel_rfl) (by kernel_rfl) (fun _ _ _ h => h) (Or.inl ⟨by rfl, fun w h => by go_simp⟩) hHeld ?_
        try simp only [Act.put, List.getElem_toArray, List.getElem_cons_zero, List.setIfInBounds_toArray, List.set_cons_zero, List.set_cons_succ]
        refine wpAnyH_take (i := 1) (v := .pointer (some ⟨g, 0, none⟩)) rfl (by kernel_rfl) (by kernel_rfl) (by kernel_rfl) (fun _ _ _ h => h) (Or.inl ⟨by rfl, fun w h => by go_simp⟩) hHeld ?_
        try simp only [Act.put, List.getElem_toArray, List.getElem_cons_succ, List.getElem_cons_zero, List.setIfInBounds_toArray, List.set_cons_zero, List.set_cons_succ]
        refine wpAnyH_take (i := 2) (v := .pointer (some ⟨g, 10, none⟩)) rfl (by kernel_rfl) (by kernel_rfl) (by kernel_rfl) (fun _ _ _ h => h) (Or.inl ⟨by rfl, fun w h => by go_simp⟩) hHeld ?_
        try simp only [Act.put, List.getElem_toArray, List.getElem_cons_succ, List.getElem_cons_zero, List.setIfInBounds_toArray, List.set_cons_zero, List.set_cons_succ]
        refine wpAnyH_take (i := 3) (v := .map (some ms)) rfl (by kernel_rfl) (by kernel_rfl) (by kernel_rfl) (fun _ _ _ h => h) (Or.inl ⟨by rfl, fun w h => by go_simp⟩) hHeld ?_
        try simp only [Act.put, List.getElem_toArray, List.getElem_cons_succ, List.getElem_cons_zero, List.setIfInBounds_toArray, List.set_cons_zero, List.set_cons_succ]
        refine wpAnyH_take (i := 4) (v := .bool sv) rfl (by kernel_rfl) (by kernel_rfl) (by kernel_rfl) (fun _ _ _ h => h) (Or.inl ⟨by rfl, fun w h => by go_simp⟩) hHeld ?_
        try simp only [Act.put, List.getElem_toArray, List.getElem_cons_succ, List.getElem_cons_zero, List.setIfInBounds_toArray, List.set_cons_zero, List.set_cons_succ]
        refine wpAnyH_take (i := 5) (v := .bool n2) rfl (by kernel_rfl) (by kernel_rfl) (by kernel_rfl) (fun _ _ _ h => h) (Or.inl ⟨by rfl, fun w h => by go_simp⟩) hHeld ?_
        try simp only [Act.put, List.getElem_toArray, List.getElem_cons_succ, List.getElem_cons_zero, List.setIfInBounds_toArray, List.set_cons_zero, List.set_cons_succ]
        refine wpAnyH_take (i := 6) (v := .agg #[.bool n2, .bool false]) rfl (by kernel_rfl) (by kernel_rfl) (by kernel_rfl) (fun _ _ _ h => h) (Or.inl ⟨by rfl, fun w h => by go_simp⟩) hHeld ?_
        try simp only [Act.put, List.getElem_toArray, List.getElem_cons_succ, List.getElem_cons_zero, List.setIfInBounds_toArray, List.set_cons_zero, List.set_cons_succ]
        refine wpAnyH_take (i := 7) (v := .pointer (some ⟨so1, 0, none⟩)) rfl (by kernel_rfl) (by kernel_rfl) (by kernel_rfl) (fun _ _ _ h => h) (Or.inl ⟨by rfl, fun w h => by go_simp⟩) hHeld ?_
        try simp only [Act.put, List.getElem_toArray, List.getElem_cons_succ, List.getElem_cons_zero, List.setIfInBounds_toArray, List.set_cons_zero, List.set_cons_succ]
        refine wpAnyH_take (i := 8) (v := .pointer (some ⟨g, 0, none⟩)) rfl (by kernel_rfl) (by kernel_rfl) (by kernel_rfl) (fun _ _ _ h => h) (Or.inl ⟨by rfl, fun w h => by go_simp⟩) hHeld ?_
        try simp only [Act.put, List.getElem_toArray, List.getElem_cons_succ, List.getElem_cons_zero, List.setIfInBounds_toArray, List.set_cons_zero, List.set_cons_succ]
        refine wpAnyH_take (i := 9) (v := .pointer (some ⟨g, 0, none⟩)) rfl (by kernel_rfl) (by kernel_rfl) (by kernel_rfl) (fun _ _ _ h => h) (Or.inl ⟨by rfl, fun w h => by go_simp⟩) hHeld ?_
        try simp only [Act.put, List.getElem_toArray, List.getElem_cons_succ, List.getElem_cons_zero, List.setIfInBounds_toArray, List.set_cons_zero, List.set_cons_succ]
        refine wpAnyH_take (i := 10) (v := .pointer (some ⟨g, 10, none⟩)) rfl (by kernel_rfl) (by kernel_rfl) (by kernel_rfl) (fun _ _ _ h => h) (Or.inl ⟨by rfl, fun w h => by go_simp⟩) hHeld ?_
        try simp only [Act.put, List.getElem_toArray, List.getElem_cons_succ, List.getElem_cons_zero, List.setIfInBounds_toArray, List.set_cons_zero, List.set_cons_succ]
        refine wpAnyH_take (i := 11) (v := .map (some ms)) rfl (by kernel_rfl) (by kernel_rfl) (by kernel_rfl) (fun _ _ _ h => h) (Or.inl ⟨by rfl, fun w h => by go_simp⟩) hHeld ?_
        try simp only [Act.put, List.getElem_toArray, List.getElem_cons_succ, List.getElem_cons_zero, List.setIfInBounds_toArray, List.set_cons_zero, List.set_cons_succ]
        refine wpAnyH_take (i := 12) (v := .bool sv) rfl (by kernel_rfl) (by kernel_rfl) (by kernel_rfl) (fun _ _ _ h => h) (Or.inl ⟨by rfl, fun w h => by go_simp⟩) hHeld ?_
        try simp only [Act.put, List.getElem_toArray, List.getElem_cons_succ, List.getElem_cons_zero, List.setIfInBounds_toArray, List.set_cons_zero, List.set_cons_succ]
        refine wpAnyH_take (i := 13) (v := .bool n2) rfl (by kernel_rfl) (by kernel_rfl) (by kernel_rfl) (fun _ _ _ h => h) (Or.inl ⟨by rfl, fun w h => by go_simp⟩) hHeld ?_
        try simp only [Act.put, List.getElem_toArray, List.getElem_cons_succ, List.getElem_cons_zero, List.setIfInBounds_toArray, List.set_cons_zero, List.set_cons_succ]
        refine wpAnyH_take (i := 14) (v := .agg #[.bool n2, .bool true]) rfl (by kernel_rfl) (by kernel_rfl) (by kernel_rfl) (fun _ _ _ h => h) (Or.inl ⟨by rfl, fun w h => by go_simp⟩) hHeld ?_
        try simp only [Act.put, List.getElem_toArray, List.getElem_cons_succ, List.getElem_cons_zero, List.setIfInBounds_toArray, List.set_cons_zero, List.set_cons_succ]
        refine wpAnyH_take (i := 15) (v := .pointer (some ⟨so2, 0, none⟩)) rfl (by kernel_rfl) (by kernel_rfl) (by kernel_rfl) (fun _ _ _ h => h) (Or.inl ⟨by rfl, fun w h => by go_simp⟩) hHeld ?_
        try simp only [Act.put, List.getElem_toArray, List.getElem_cons_succ, List.getElem_cons_zero, List.setIfInBounds_toArray, List.set_cons_zero, List.set_cons_succ]
        refine wpAnyH_take (i := 16) (v := .pointer (some ⟨k, 2, none⟩)) rfl (by kernel_rfl) (by kernel_rfl) (by kernel_rfl) (fun _ _ _ h => h) (Or.inl ⟨by rfl, fun w h => by go_simp⟩) hHeld ?_
        try simp only [Act.put, List.getElem_toArray, List.getElem_cons_succ, List.getElem_cons_zero, List.setIfInBounds_toArray, List.set_cons_zero, List.set_cons_succ]
        refine wpAnyH_take (i := 17) (v := .int .u64 (c : Int)) rfl (by kernel_rfl) (by kernel_rfl) (by kernel_rfl) (fun _ _ _ h => h) (Or.inl ⟨by rfl, fun w h => by go_simp⟩) hHeld ?_
        try simp only [Act.put, List.getElem_toArray, List.getElem_cons_succ, List.getElem_cons_zero, List.setIfInBounds_toArray, List.set_cons_zero, List.set_cons_succ]
        refine wpAnyH_take (i := 18) (v := .int .u64 (C : Int)) rfl (by kernel_rfl) (by kernel_rfl) (by kernel_rfl) (fun _ _ _ h => h) (Or.inl ⟨by rfl, fun w h => by go_simp⟩) hHeld ?_
        try simp only [Act.put, List.getElem_toArray, List.getElem_cons_succ, List.getElem_cons_zero, List.setIfInBounds_toArray, List.set_cons_zero, List.set_cons_succ]
        refine wpAnyH_take (i := 19) (v := .pointer (some ⟨k, 3, none⟩)) rfl (by kernel_rfl) (by kernel_rfl) (by kernel_rfl) (fun _ _ _ h => h) (Or.inl ⟨by rfl, fun w h => by go_simp⟩) hHeld ?_
        try simp only [Act.put, List.getElem_toArray, List.getElem_cons_succ, List.getElem_cons_zero, List.setIfInBounds_toArray, List.set_cons_zero, List.set_cons_succ]
        refine wpAnyH_take (i := 20) (v := .int .u64 (d : Int)) rfl (by kernel_rfl) (by kernel_rfl) (by kernel_rfl) (fun _ _ _ h => h) (Or.inl ⟨by rfl, fun w h => by go_simp⟩) hHeld ?_
        try simp only [Act.put, List.getElem_toArray, List.getElem_cons_succ, List.getElem_cons_zero, List.setIfInBounds_toArray, List.set_cons_zero, List.set_cons_succ]
        refine wpAnyH_take (i := 21) (v := .int .u64 (D : Int)) rfl (by kernel_rfl) (by kernel_rfl) (by kernel_rfl) (fun _ _ _ h => h) (Or.inl ⟨by rfl, fun w h => by go_simp⟩) hHeld ?_
        try simp only [Act.put, List.getElem_toArray, List.getElem_cons_succ, List.getElem_cons_zero, List.setIfInBounds_toArray, List.set_cons_zero, List.set_cons_succ]
        refine wpAnyH_take (i := 22) (v := .pointer (some ⟨so1, 0, none⟩)) rfl (by kernel_rfl) (by kernel_rfl) (by kernel_rfl) (fun _ _ _ h => h) (Or.inl ⟨by rfl, fun w h => by go_simp⟩) hHeld ?_
        try simp only [Act.put, List.getElem_toArray, List.getElem_cons_succ, List.getElem_cons_zero, List.setIfInBounds_toArray, List.set_cons_zero, List.set_cons_succ]
        refine wpAnyH_take (i := 23) (v := .pointer (some ⟨so1, 1, none⟩)) rfl (by kernel_rfl) (by kernel_rfl) (by kernel_rfl) (fun _ _ _ h => h) (Or.inl ⟨by rfl, fun w h => by go_simp⟩) hHeld ?_
        try simp only [Act.put, List.getElem_toArray, List.getElem_cons_succ, List.getElem_cons_zero, List.setIfInBounds_toArray, List.set_cons_zero, List.set_cons_succ]
        clear hmn hmd
        have hq1 := HZ1.out.setSoC n2 false 1 (u64 C) (s := ⟨0, C, 0⟩) rfl
        have s1 := (HZ1.out.so n2 false).cr.at_ 1
        have f1 := (HZ1.out.so n2 false).cr.fr 1
        have hne1 : k ≠ Y.so n2 false := cr_ne HK1.out (HZ1.out.so n2 false).cr (by decide)
        have hlo1 := HRL.out (Y.so n2 false) (by rw [(HZ1.out.so n2 false).rb]; unfold rso; omega)
        have hlo2 := HRL.out (Y.so n2 true) (by rw [(HZ1.out.so n2 true).rb]; unfold rso; omega)
        rw [HSO1.out] at hq1 s1 f1 hne1 hlo1
        rw [HSO2.out] at hlo2
        unfold u64 at hq1
        have s1' : V7.cell? ⟨so1, 1, none⟩ = some (.int .u64 0) := s1
        have kk2 := HK1.out.grown (grown_set V7 so1 1 (.int .u64 (C : Int))) (fun he => by injection he with he; exact hne1 he)
        have HK2 := Lib.hid kk2
        have HQ1 := Lib.hid hq1.1
        have HB8 := Lib.hid (bel_grown HB7.out (grown_set V7 so1 1 (.int .u64 (C : Int))) HB7.out.size hlo1)
        have HLO2 := Lib.hid hlo2
        clear s1 hq1 kk2 hne1 hlo1 hlo2
        refine wpAnyH_ready (rs := [24]) (by kernel_rfl) (by simp) (AllReadyH.cons rfl (fun K hK => ?_) AllReadyH.nil)
        go_simp
        refine hK.out _ _ (HF.out _ _ HQ1.out HK2.out) (fun hHeld => ?_)
        clear hK K s1' f1
        try simp only [Act.put, List.getElem_toArray, List.getElem_cons_succ, List.getElem_cons_zero, List.setIfInBounds_toArray, List.set_cons_zero, List.set_cons_succ]
        obtain ⟨V8, hV8⟩ : ∃ x, V7.setCell ⟨so1, 1, none⟩ (.int .u64 (C : Int)) = x := ⟨_, rfl⟩
        rw [hV8] at hHeld HQ1 HK2 HB8 ⊢
        clear hV8
        refine wpAnyH_take (i := 25) (v := .pointer (some ⟨so2, 0, none⟩)) rfl (by kernel_rfl) (by kernel_rfl) (by kernel_rfl) (fun _ _ _ h => h) (Or.inl ⟨by rfl, fun w h => by go_simp⟩) hHeld ?_
        try simp only [Act.put, List.getElem_toArray, List.getElem_cons_succ, List.getElem_cons_zero, List.setIfInBounds_toArray, List.set_cons_zero, List.set_cons_succ]
        refine wpAnyH_take (i := 26) (v := .pointer (some ⟨so2, 1, none⟩)) rfl (by kernel_rfl) (by kernel_rfl) (by kernel_rfl) (fun _ _ _ h => h) (Or.inl ⟨by rfl, fun w h => by go_simp⟩) hHeld ?_
        try simp only [Act.put, List.getElem_toArray, List.getElem_cons_succ, List.getElem_cons_zero, List.setIfInBounds_toArray, List.set_cons_zero, List.set_cons_succ]
        have e2 : (Pi.setSo (newT sv a b c d wi) n2 false ⟨0, C, 0⟩).so n2 true = ⟨0, 0, 0⟩ := by simp [Pi.setSo, newT]
        have hq2 := HQ1.out.setSoC n2 true 1 (u64 D) (s := ⟨0, D, 0⟩) (by rw [e2]; rfl)
        have s2 := (HQ1.out.so n2 true).cr.at_ 1
        have f2 := (HQ1.out.so n2 true).cr.fr 1
        have hne2 : k ≠ Y.so n2 true := cr_ne HK2.out (HQ1.out.so n2 true).cr (by decide)
        rw [HSO2.out] at hq2 s2 f2 hne2
        rw [e2] at s2
        unfold u64 at hq2
        have s2' : V8.cell? ⟨so2, 1, none⟩ = some (.int .u64 0) := s2
        have HK3 := Lib.hid (HK2.out.grown (grown_set V8 so2 1 (.int .u64 (D : Int))) (fun he => by injection he with he; exact hne2 he))
        have HQ2 := Lib.hid hq2.1
        have HB9 := Lib.hid (bel_grown HB8.out (grown_set V8 so2 1 (.int .u64 (D : Int))) HB8.out.size HLO2.out)
        clear s2 hq2 hne2 e2
        refine wpAnyH_ready (rs := [27]) (by kernel_rfl) (by simp) (AllReadyH.cons rfl (fun K hK => ?_) AllReadyH.nil)
        go_simp
        refine hK.out _ _ (HF.out _ _ HQ2.out HK3.out) (fun hHeld => ?_)
        clear hK K s2' f2
        try simp only [Act.put, List.getElem_toArray, List.getElem_cons_succ, List.getElem_cons_zero, List.setIfInBounds_toArray, List.set_cons_zero, List.set_cons_succ]
        refine wpAnyH_done (by kernel_rfl) ?_ _
        try simp only [Act.put, List.getElem_toArray, List.getElem_cons_succ, List.getElem_cons_zero]
        clear hHeld
        go_wp2
        go_ret
        refine ⟨g, role, Y, rfl, ?_, HYN.out, ?_, fun k hk => Nat.le_trans HB.out.size (HRL.out k hk)⟩
        · unfold newS
          rw [HWI.out, HN2.out, HC.out, HD.out]
          exact HQ2.out
        · exact HB.out.trans (HB9.out.mono HB.out.size)
      · have hrg := O.out.qr.rng2 (u := .bool false) (v := .bool false) 0 rfl rfl
        obtain ⟨kb, hkb⟩ : ∃ y, wr.heap.size = y := ⟨_, rfl⟩
        have hrx := CR.new wr 66 [.bool false, .bool false]
        rw [hkb] at hrx
        have HRG := Lib.hid hrg
        have HRX := Lib.hid hrx
        have HKB := Lib.hid hkb
        clear hrg hrx hi
        go_upto_region 5 with (first
          | ((with_reducible refine gate_ix ?_); refine L_indexO tKey _ _ rfl .i64 _ 0 rfl rfl rfl (by omega) (J := 0) rfl (by rfl) ?_)
          | (refine L_loadG 66 _ rfl (by rfl) _ _ rfl _ _ HRG.out Try.underlying66 rfl iKey ?_)
          | (refine L_storeRow (old := [.bool false, .bool false]) (new := [.bool false, .bool false]) rfl 66 _ _ rfl rfl rfl HRX.out iKey rfl rfl (by simp [Value.oneCell']) ?_; intro w5 hz5 hg5; have HZ5 := Lib.hid hz5; have HG5 := Lib.hid hg5; clear hz5 hg5))
        have hb5 : Below wr.heap.size wr w5 := (below_alloc wr (.cells [.bool false, .bool false].toArray 66)).grown HG5.out (by simp) (fun j hj => by cases hj; rw [HKB.out]; exact Nat.le_refl _)
        have HO5 := Lib.hid (O.out.bel hb5)
        have c10 : w5.cell? ⟨g, 10, none⟩ = some (.map (some ms)) := HO5.out.nw.row.at_ 10
        have HH := Lib.hid (show w5.cell? ⟨g, 10, none⟩ = some (.map (some ms)) ∧ w5.rangeAt kb 0 [.bool false, .bool false] from ⟨c10, HZ5.out.rng⟩)
        have HO6 := Lib.hid (HO5.out.bel (bel_drew _ w5))
        have HZ6 := Lib.hid (HZ5.out.bel (bel_drew _ w5))
        obtain ⟨V5, hV5⟩ : ∃ x, w5.drew = x := ⟨_, rfl⟩
        rw [hV5] at HO6 HZ6
        clear hb5 HRG HRX HG5 hkb c10
        refine wp_region_held_drew (S := fun x => x.cell? ⟨g, 10, none⟩ = some (.map (some ms)) ∧ x.rangeAt kb 0 [.bool false, .bool false]) (by kernel_rfl) HH.out (fun hHeld => ?_)
        rw [hV5] at hHeld ⊢
        clear hV5 HH HZ5
        refine wpAnyH_take (i := 0) (v := .pointer (some ⟨g, 0, none⟩)) rfl (by kernel_rfl) (by kernel_rfl) (by kernel_rfl) (fun _ _ _ h => h) (Or.inl ⟨by rfl, fun w h => by go_simp⟩) hHeld ?_
        try simp only [Act.put, List.getElem_toArray, List.getElem_cons_zero, List.setIfInBounds_toArray, List.set_cons_zero, List.set_cons_succ]
        refine wpAnyH_take (i := 1) (v := .pointer (some ⟨g, 0, none⟩)) rfl (by kernel_rfl) (by kernel_rfl) (by kernel_rfl) (fun _ _ _ h => h) (Or.inl ⟨by rfl, fun w h => by go_simp⟩) hHeld ?_
        try simp only [Act.put, List.getElem_toArray, List.getElem_cons_succ, List.getElem_cons_zero, List.setIfInBounds_toArray, List.set_cons_zero, List.set_cons_succ]
        refine wpAnyH_take (i := 2) (v := .pointer (some ⟨g, 10, none⟩)) rfl (by kernel_rfl) (by kernel_rfl) (by kernel_rfl) (fun _ _ _ h => h) (Or.inl ⟨by rfl, fun w h => by go_simp⟩) hHeld ?_
        try simp only [Act.put, List.getElem_toArray, List.getElem_cons_succ, List.getElem_cons_zero, List.setIfInBounds_toArray, List.set_cons_zero, List.set_cons_succ]
        refine wpAnyH_take (i := 3) (v := .map (some ms)) rfl (by kernel_rfl) (by kernel_rfl) (by kernel_rfl) (fun _ _ _ h => h) (Or.inl ⟨by rfl, fun w h => by go_simp⟩) hHeld ?_
        try simp only [Act.put, List.getElem_toArray, List.getElem_cons_succ, List.getElem_cons_zero, List.setIfInBounds_toArray, List.set_cons_zero, List.set_cons_succ]
        refine wpAnyH_take (i := 4) rfl (by kernel_rfl) (by kernel_rfl) (by kernel_rfl) (fun _ _ _ h => h) (yieldsIf_load_mid (by rfl) _ _ rfl _ _ rfl _ _ (fun w h => h.2) Try.underlying66 rfl iKey) hHeld ?_
        try simp only [Act.put, List.getElem_toArray, List.getElem_cons_succ, List.getElem_cons_zero, List.setIfInBounds_toArray, List.set_cons_zero, List.set_cons_succ]
        refine wpAnyH_take (i := 5) (v := .agg #[.int .u64 0, .int .u64 0, .int .i64 0]) rfl (by kernel_rfl) (by kernel_rfl) (by kernel_rfl) (fun _ _ _ h => h) (Or.inl ⟨by rfl, fun w h => by go_simp⟩) hHeld ?_
        try simp only [Act.put, List.getElem_toArray, List.getElem_cons_succ, List.getElem_cons_zero, List.setIfInBounds_toArray, List.set_cons_zero, List.set_cons_succ]
        refine wpAnyH_ready (rs := [6]) (by kernel_rfl) (by simp) (AllReadyH.cons rfl (fun K hK => ?_) AllReadyH.nil)
        go_simp
        have hrs := CR.new V5 70 [.int .u64 0, .int .u64 0, .int .i64 0]
        have hbs := below_alloc V5 (.cells [.int .u64 0, .int .u64 0, .int .i64 0].toArray 70)
        refine hK.out _ _ ⟨(HO6.out.bel hbs).nw.row.at_ 10, (HZ6.out.bel hbs).rng⟩ (fun hHeld => ?_)
        clear hK K
        try simp only [Act.put, List.getElem_toArray, List.getElem_cons_succ, List.getElem_cons_zero, List.setIfInBounds_toArray, List.set_cons_zero, List.set_cons_succ]
        generalize (World.alloc _ _) = V6 at *
        have HSN := Lib.hid (Nat.le_refl V5.heap.size)
        obtain ⟨s, hs⟩ : ∃ x, V5.heap.size = x := ⟨_, rfl⟩
        rw [hs] at hrs ⊢
        have HS := Lib.hid hs
        have HRS := Lib.hid hrs
        have HBS := Lib.hid hbs
        have HO7 := Lib.hid (HO6.out.bel hbs)
        have HZ7 := Lib.hid (HZ6.out.bel hbs)
        clear hrs hbs hs HSN
        refine wpAnyH_ready (rs := [7]) (by kernel_rfl) (by simp) (AllReadyH.cons rfl (fun K hK => ?_) AllReadyH.nil)
        have HSM := Lib.hid (HO6.out.ex.choose_spec.1.bel HBS.out)
        refine S_sput (by rfl) _ _ _ rfl HSM.out (by decide) false false s rfl rfl rfl ?_
        intro w9 hm9 hg9
        have HN := Lib.hid (NL.step HO6.out false false rfl (by omega) HBS.out HRS.out (by rw [HS.out]; exact Nat.le_refl _) hm9 hg9)
        have hzz := (HZ7.out.grown hg9 (fun he => by injection he with he; exact sm_ne HSM.out HZ7.out he)).rng
        refine hK.out _ _ ⟨HN.out.nw.row.at_ 10, hzz⟩ (fun hHeld => ?_)
        clear hK K hm9 hg9 hzz HSM HO6 HZ6 HO7 HZ7 HRS HBS HS O
        try simp only [Act.put, List.getElem_toArray, List.getElem_cons_succ, List.getElem_cons_zero]
        refine wpAnyH_done (by kernel_rfl) ?_ _
        try simp only [Act.put, List.getElem_toArray, List.getElem_cons_succ, List.getElem_cons_zero]
        clear hHeld
        go_wp2
        exact ⟨⟨1, rfl, HN.out⟩, by simp⟩
      · have hrg := O.out.qr.rng2 (u := .bool false) (v := .bool true) 2 rfl rfl
        obtain ⟨kb, hkb⟩ : ∃ y, wr.heap.size = y := ⟨_, rfl⟩
        have hrx := CR.new wr 66 [.bool false, .bool false]
        rw [hkb] at hrx
        have HRG := Lib.hid hrg
        have HRX := Lib.hid hrx
        have HKB := Lib.hid hkb
        clear hrg hrx hi
        go_upto_region 5 with (first
          | ((with_reducible refine gate_ix ?_); refine L_indexO tKey _ _ rfl .i64 _ 1 rfl rfl rfl (by omega) (J := 2) rfl (by rfl) ?_)
          | (refine L_loadG 66 _ rfl (by rfl) _ _ rfl _ _ HRG.out Try.underlying66 rfl iKey ?_)
          | (refine L_storeRow (old := [.bool false, .bool false]) (new := [.bool false, .bool true]) rfl 66 _ _ rfl rfl rfl HRX.out iKey rfl rfl (by simp [Value.oneCell']) ?_; intro w5 hz5 hg5; have HZ5 := Lib.hid hz5; have HG5 := Lib.hid hg5; clear hz5 hg5))
        have hb5 : Below wr.heap.size wr w5 := (below_alloc wr (.cells [.bool false, .bool false].toArray 66)).grown HG5.out (by simp) (fun j hj => by cases hj; rw [HKB.out]; exact Nat.le_refl _)
        have HO5 := Lib.hid (O.out.bel hb5)
        have c10 : w5.cell? ⟨g, 10, none⟩ = some (.map (some ms)) := HO5.out.nw.row.at_ 10
        have HH := Lib.hid (show w5.cell? ⟨g, 10, none⟩ = some (.map (some ms)) ∧ w5.rangeAt kb 0 [.bool false, .bool true] from ⟨c10, HZ5.out.rng⟩)
        have HO6 := Lib.hid (HO5.out.bel (bel_drew _ w5))
        have HZ6 := Lib.hid (HZ5.out.bel (bel_drew _ w5))
        obtain ⟨V5, hV5⟩ : ∃ x, w5.drew = x := ⟨_, rfl⟩
        rw [hV5] at HO6 HZ6
        clear hb5 HRG HRX HG5 hkb c10
        refine wp_region_held_drew (S := fun x => x.cell? ⟨g, 10, none⟩ = some (.map (some ms)) ∧ x.rangeAt kb 0 [.bool false, .bool true]) (by kernel_rfl) HH.out (fun hHeld => ?_)
        rw [hV5] at hHeld ⊢
        clear hV5 HH HZ5
        refine wpAnyH_take (i := 0) (v := .pointer (some ⟨g, 0, none⟩)) rfl (by kernel_rfl) (by kernel_rfl) (by kernel_rfl) (fun _ _ _ h => h) (Or.inl ⟨by rfl, fun w h => by go_simp⟩) hHeld ?_
        try simp only [Act.put, List.getElem_toArray, List.getElem_cons_zero, List.setIfInBounds_toArray, List.set_cons_zero, List.set_cons_succ]
        refine wpAnyH_take (i := 1) (v := .pointer (some ⟨g, 0, none⟩)) rfl (by kernel_rfl) (by kernel_rfl) (by kernel_rfl) (fun _ _ _ h => h) (Or.inl ⟨by rfl, fun w h => by go_simp⟩) hHeld ?_
        try simp only [Act.put, List.getElem_toArray, List.getElem_cons_succ, List.getElem_cons_zero, List.setIfInBounds_toArray, List.set_cons_zero, List.set_cons_succ]
        refine wpAnyH_take (i := 2) (v := .pointer (some ⟨g, 10, none⟩)) rfl (by kernel_rfl) (by kernel_rfl) (by kernel_rfl) (fun _ _ _ h => h) (Or.inl ⟨by rfl, fun w h => by go_simp⟩) hHeld ?_
        try simp only [Act.put, List.getElem_toArray, List.getElem_cons_succ, List.getElem_cons_zero, List.setIfInBounds_toArray, List.set_cons_zero, List.set_cons_succ]
        refine wpAnyH_take (i := 3) (v := .map (some ms)) rfl (by kernel_rfl) (by kernel_rfl) (by kernel_rfl) (fun _ _ _ h => h) (Or.inl ⟨by rfl, fun w h => by go_simp⟩) hHeld ?_
        try simp only [Act.put, List.getElem_toArray, List.getElem_cons_succ, List.getElem_cons_zero, List.setIfInBounds_toArray, List.set_cons_zero, List.set_cons_succ]
        refine wpAnyH_take (i := 4) rfl (by kernel_rfl) (by kernel_rfl) (by kernel_rfl) (fun _ _ _ h => h) (yieldsIf_load_mid (by rfl) _ _ rfl _ _ rfl _ _ (fun w h => h.2) Try.underlying66 rfl iKey) hHeld ?_
        try simp only [Act.put, List.getElem_toArray, List.getElem_cons_succ, List.getElem_cons_zero, List.setIfInBounds_toArray, List.set_cons_zero, List.set_cons_succ]
        refine wpAnyH_take (i := 5) (v := .agg #[.int .u64 0, .int .u64 0, .int .i64 0]) rfl (by kernel_rfl) (by kernel_rfl) (by kernel_rfl) (fun _ _ _ h => h) (Or.inl ⟨by rfl, fun w h => by go_simp⟩) hHeld ?_
        try simp only [Act.put, List.getElem_toArray, List.getElem_cons_succ, List.getElem_cons_zero, List.setIfInBounds_toArray, List.set_cons_zero, List.set_cons_succ]
        refine wpAnyH_ready (rs := [6]) (by kernel_rfl) (by simp) (AllReadyH.cons rfl (fun K hK => ?_) AllReadyH.nil)
        go_simp
        have hrs := CR.new V5 70 [.int .u64 0, .int .u64 0, .int .i64 0]
        have hbs := below_alloc V5 (.cells [.int .u64 0, .int .u64 0, .int .i64 0].toArray 70)
        refine hK.out _ _ ⟨(HO6.out.bel hbs).nw.row.at_ 10, (HZ6.out.bel hbs).rng⟩ (fun hHeld => ?_)
        clear hK K
        try simp only [Act.put, List.getElem_toArray, List.getElem_cons_succ, List.getElem_cons_zero, List.setIfInBounds_toArray, List.set_cons_zero, List.set_cons_succ]
        generalize (World.alloc _ _) = V6 at *
        have HSN := Lib.hid (Nat.le_refl V5.heap.size)
        obtain ⟨s, hs⟩ : ∃ x, V5.heap.size = x := ⟨_, rfl⟩
        rw [hs] at hrs ⊢
        have HS := Lib.hid hs
        have HRS := Lib.hid hrs
        have HBS := Lib.hid hbs
        have HO7 := Lib.hid (HO6.out.bel hbs)
        have HZ7 := Lib.hid (HZ6.out.bel hbs)
        clear hrs hbs hs HSN
        refine wpAnyH_ready (rs := [7]) (by kernel_rfl) (by simp) (AllReadyH.cons rfl (fun K hK => ?_) AllReadyH.nil)
        have HSM := Lib.hid (HO6.out.ex.choose_spec.1.bel HBS.out)
        refine S_sput (by rfl) _ _ _ rfl HSM.out (by decide) false true s rfl rfl rfl ?_
        intro w9 hm9 hg9
        have HN := Lib.hid (NL.step HO6.out false true rfl (by omega) HBS.out HRS.out (by rw [HS.out]; exact Nat.le_refl _) hm9 hg9)
        have hzz := (HZ7.out.grown hg9 (fun he => by injection he with he; exact sm_ne HSM.out HZ7.out he)).rng
        refine hK.out _ _ ⟨HN.out.nw.row.at_ 10, hzz⟩ (fun hHeld => ?_)
        clear hK K hm9 hg9 hzz HSM HO6 HZ6 HO7 HZ7 HRS HBS HS O
        try simp only [Act.put, List.getElem_toArray, List.getElem_cons_succ, List.getElem_cons_zero]
        refine wpAnyH_done (by kernel_rfl) ?_ _
        try simp only [Act.put, List.getElem_toArray, List.getElem_cons_succ, List.getElem_cons_zero]
        clear hHeld
        go_wp2
        exact ⟨⟨2, rfl, HN.out⟩, by simp⟩
      · have hrg := O.out.qr.rng2 (u := .bool true) (v := .bool false) 4 rfl rfl
        obtain ⟨kb, hkb⟩ : ∃ y, wr.heap.size = y := ⟨_, rfl⟩
        have hrx := CR.new wr 66 [.bool false, .bool false]
        rw [hkb] at hrx
        have HRG := Lib.hid hrg
        have HRX := Lib.hid hrx
        have HKB := Lib.hid hkb
        clear hrg hrx hi
        go_upto_region 5 with (first
          | ((with_reducible refine gate_ix ?_); refine L_indexO tKey _ _ rfl .i64 _ 2 rfl rfl rfl (by omega) (J := 4) rfl (by rfl) ?_)
          | (refine L_loadG 66 _ rfl (by rfl) _ _ rfl _ _ HRG.out Try.underlying66 rfl iKey ?_)
          | (refine L_storeRow (old := [.bool false, .bool false]) (new := [.bool true, .bool false]) rfl 66 _ _ rfl rfl rfl HRX.out iKey rfl rfl (by simp [Value.oneCell']) ?_; intro w5 hz5 hg5; have HZ5 := Lib.hid hz5; have HG5 := Lib.hid hg5; clear hz5 hg5))
        have hb5 : Below wr.heap.size wr w5 := (below_alloc wr (.cells [.bool false, .bool false].toArray 66)).grown HG5.out (by simp) (fun j hj => by cases hj; rw [HKB.out]; exact Nat.le_refl _)
        have HO5 := Lib.hid (O.out.bel hb5)
        have c10 : w5.cell? ⟨g, 10, none⟩ = some (.map (some ms)) := HO5.out.nw.row.at_ 10
        have HH := Lib.hid (show w5.cell? ⟨g, 10, none⟩ = some (.map (some ms)) ∧ w5.rangeAt kb 0 [.bool true, .bool false] from ⟨c10, HZ5.out.rng⟩)
        have HO6 := Lib.hid (HO5.out.bel (bel_drew _ w5))
        have HZ6 := Lib.hid (HZ5.out.bel (bel_drew _ w5))
        obtain ⟨V5, hV5⟩ : ∃ x, w5.drew = x := ⟨_, rfl⟩
        rw [hV5] at HO6 HZ6
        clear hb5 HRG HRX HG5 hkb c10
        refine wp_region_held_drew (S := fun x => x.cell? ⟨g, 10, none⟩ = some (.map (some ms)) ∧ x.rangeAt kb 0 [.bool true, .bool false]) (by kernel_rfl) HH.out (fun hHeld => ?_)
        rw [hV5] at hHeld ⊢
        clear hV5 HH HZ5
        refine wpAnyH_take (i := 0) (v := .pointer (some ⟨g, 0, none⟩)) rfl (by kernel_rfl) (by kernel_rfl) (by kernel_rfl) (fun _ _ _ h => h) (Or.inl ⟨by rfl, fun w h => by go_simp⟩) hHeld ?_
        try simp only [Act.put, List.getElem_toArray, List.getElem_cons_zero, List.setIfInBounds_toArray, List.set_cons_zero, List.set_cons_succ]
        refine wpAnyH_take (i := 1) (v := .pointer (some ⟨g, 0, none⟩)) rfl (by kernel_rfl) (by kernel_rfl) (by kernel_rfl) (fun _ _ _ h => h) (Or.inl ⟨by rfl, fun w h => by go_simp⟩) hHeld ?_
        try simp only [Act.put, List.getElem_toArray, List.getElem_cons_succ, List.getElem_cons_zero, List.setIfInBounds_toArray, List.set_cons_zero, List.set_cons_succ]
        refine wpAnyH_take (i := 2) (v := .pointer (some ⟨g, 10, none⟩)) rfl (by kernel_rfl) (by kernel_rfl) (by kernel_rfl) (fun _ _ _ h => h) (Or.inl ⟨by rfl, fun w h => by go_simp⟩) hHeld ?_
        try simp only [Act.put, List.getElem_toArray, List.getElem_cons_succ, List.getElem_cons_zero, List.setIfInBounds_toArray, List.set_cons_zero, List.set_cons_succ]
        refine wpAnyH_take (i := 3) (v := .map (some ms)) rfl (by kernel_rfl) (by kernel_rfl) (by kernel_rfl) (fun _ _ _ h => h) (Or.inl ⟨by rfl, fun w h => by go_simp⟩) hHeld ?_
        try simp only [Act.put, List.getElem_toArray, List.getElem_cons_succ, List.getElem_cons_zero, List.setIfInBounds_toArray, List.set_cons_zero, List.set_cons_succ]
        refine wpAnyH_take (i := 4) rfl (by kernel_rfl) (by kernel_rfl) (by kernel_rfl) (fun _ _ _ h => h) (yieldsIf_load_mid (by rfl) _ _ rfl _ _ rfl _ _ (fun w h => h.2) Try.underlying66 rfl iKey) hHeld ?_
        try simp only [Act.put, List.getElem_toArray, List.getElem_cons_succ, List.getElem_cons_zero, List.setIfInBounds_toArray, List.set_cons_zero, List.set_cons_succ]
        refine wpAnyH_take (i := 5) (v := .agg #[.int .u64 0, .int .u64 0, .int .i64 0]) rfl (by kernel_rfl) (by kernel_rfl) (by kernel_rfl) (fun _ _ _ h => h) (Or.inl ⟨by rfl, fun w h => by go_simp⟩) hHeld ?_
        try simp only [Act.put, List.getElem_toArray, List.getElem_cons_succ, List.getElem_cons_zero, List.setIfInBounds_toArray, List.set_cons_zero, List.set_cons_succ]
        refine wpAnyH_ready (rs := [6]) (by kernel_rfl) (by simp) (AllReadyH.cons rfl (fun K hK => ?_) AllReadyH.nil)
        go_simp
        have hrs := CR.new V5 70 [.int .u64 0, .int .u64 0, .int .i64 0]
        have hbs := below_alloc V5 (.cells [.int .u64 0, .int .u64 0, .int .i64 0].toArray 70)
        refine hK.out _ _ ⟨(HO6.out.bel hbs).nw.row.at_ 10, (HZ6.out.bel hbs).rng⟩ (fun hHeld => ?_)
        clear hK K
        try simp only [Act.put, List.getElem_toArray, List.getElem_cons_succ, List.getElem_cons_zero, List.setIfInBounds_toArray, List.set_cons_zero, List.set_cons_succ]
        generalize (World.alloc _ _) = V6 at *
        have HSN := Lib.hid (Nat.le_refl V5.heap.size)
        obtain ⟨s, hs⟩ : ∃ x, V5.heap.size = x := ⟨_, rfl⟩
        rw [hs] at hrs ⊢
        have HS := Lib.hid hs
        have HRS := Lib.hid hrs
        have HBS := Lib.hid hbs
        have HO7 := Lib.hid (HO6.out.bel hbs)
        have HZ7 := Lib.hid (HZ6.out.bel hbs)
        clear hrs hbs hs HSN
        refine wpAnyH_ready (rs := [7]) (by kernel_rfl) (by simp) (AllReadyH.cons rfl (fun K hK => ?_) AllReadyH.nil)
        have HSM := Lib.hid (HO6.out.ex.choose_spec.1.bel HBS.out)
        refine S_sput (by rfl) _ _ _ rfl HSM.out (by decide) true false s rfl rfl rfl ?_
        intro w9 hm9 hg9
        have HN := Lib.hid (NL.step HO6.out true false rfl (by omega) HBS.out HRS.out (by rw [HS.out]; exact Nat.le_refl _) hm9 hg9)
        have hzz := (HZ7.out.grown hg9 (fun he => by injection he with he; exact sm_ne HSM.out HZ7.out he)).rng
        refine hK.out _ _ ⟨HN.out.nw.row.at_ 10, hzz⟩ (fun hHeld => ?_)
        clear hK K hm9 hg9 hzz HSM HO6 HZ6 HO7 HZ7 HRS HBS HS O
        try simp only [Act.put, List.getElem_toArray, List.getElem_cons_succ, List.getElem_cons_zero]
        refine wpAnyH_done (by kernel_rfl) ?_ _
        try simp only [Act.put, List.getElem_toArray, List.getElem_cons_succ, List.getElem_cons_zero]
        clear hHeld
        go_wp2
        exact ⟨⟨3, rfl, HN.out⟩, by simp⟩
      · have hrg := O.out.qr.rng2 (u := .bool true) (v := .bool true) 6 rfl rfl
        obtain ⟨kb, hkb⟩ : ∃ y, wr.heap.size = y := ⟨_, rfl⟩
        have hrx := CR.new wr 66 [.bool false, .bool false]
        rw [hkb] at hrx
        have HRG := Lib.hid hrg
        have HRX := Lib.hid hrx
        have HKB := Lib.hid hkb
        clear hrg hrx hi
        go_upto_region 5 with (first
          | ((with_reducible refine gate_ix ?_); refine L_indexO tKey _ _ rfl .i64 _ 3 rfl rfl rfl (by omega) (J := 6) rfl (by rfl) ?_)
          | (refine L_loadG 66 _ rfl (by rfl) _ _ rfl _ _ HRG.out Try.underlying66 rfl iKey ?_)
          | (refine L_storeRow (old := [.bool false, .bool false]) (new := [.bool true, .bool true]) rfl 66 _ _ rfl rfl rfl HRX.out iKey rfl rfl (by simp [Value.oneCell']) ?_; intro w5 hz5 hg5; have HZ5 := Lib.hid hz5; have HG5 := Lib.hid hg5; clear hz5 hg5))
        have hb5 : Below wr.heap.size wr w5 := (below_alloc wr (.cells [.bool false, .bool false].toArray 66)).grown HG5.out (by simp) (fun j hj => by cases hj; rw [HKB.out]; exact Nat.le_refl _)
        have HO5 := Lib.hid (O.out.bel hb5)
        have c10 : w5.cell? ⟨g, 10, none⟩ = some (.map (some ms)) := HO5.out.nw.row.at_ 10
        have HH := Lib.hid (show w5.cell? ⟨g, 10, none⟩ = some (.map (some ms)) ∧ w5.rangeAt kb 0 [.bool true, .bool true] from ⟨c10, HZ5.out.rng⟩)
        have HO6 := Lib.hid (HO5.out.bel (bel_drew _ w5))
        have HZ6 := Lib.hid (HZ5.out.bel (bel_drew _ w5))
        obtain ⟨V5, hV5⟩ : ∃ x, w5.drew = x := ⟨_, rfl⟩
        rw [hV5] at HO6 HZ6
        clear hb5 HRG HRX HG5 hkb c10
        refine wp_region_held_drew (S := fun x => x.cell? ⟨g, 10, none⟩ = some (.map (some ms)) ∧ x.rangeAt kb 0 [.bool true, .bool true]) (by kernel_rfl) HH.out (fun hHeld => ?_)
        rw [hV5] at hHeld ⊢
        clear hV5 HH HZ5
        refine wpAnyH_take (i := 0) (v := .pointer (some ⟨g, 0, none⟩)) rfl (by kernel_rfl) (by kernel_rfl) (by kernel_rfl) (fun _ _ _ h => h) (Or.inl ⟨by rfl, fun w h => by go_simp⟩) hHeld ?_
        try simp only [Act.put, List.getElem_toArray, List.getElem_cons_zero, List.setIfInBounds_toArray, List.set_cons_zero, List.set_cons_succ]
        refine wpAnyH_take (i := 1) (v := .pointer (some ⟨g, 0, none⟩)) rfl (by kernel_rfl) (by kernel_rfl) (by kernel_rfl) (fun _ _ _ h => h) (Or.inl ⟨by rfl, fun w h => by go_simp⟩) hHeld ?_
        try simp only [Act.put, List.getElem_toArray, List.getElem_cons_succ, List.getElem_cons_zero, List.setIfInBounds_toArray, List.set_cons_zero, List.set_cons_succ]
        refine wpAnyH_take (i := 2) (v := .pointer (some ⟨g, 10, none⟩)) rfl (by kernel_rfl) (by kernel_rfl) (by kernel_rfl) (fun _ _ _ h => h) (Or.inl ⟨by rfl, fun w h => by go_simp⟩) hHeld ?_
        try simp only [Act.put, List.getElem_toArray, List.getElem_cons_succ, List.getElem_cons_zero, List.setIfInBounds_toArray, List.set_cons_zero, List.set_cons_succ]
        refine wpAnyH_take (i := 3) (v := .map (some ms)) rfl (by kernel_rfl) (by kernel_rfl) (by kernel_rfl) (fun _ _ _ h => h) (Or.inl ⟨by rfl, fun w h => by go_simp⟩) hHeld ?_
        try simp only [Act.put, List.getElem_toArray, List.getElem_cons_succ, List.getElem_cons_zero, List.setIfInBounds_toArray, List.set_cons_zero, List.set_cons_succ]
        refine wpAnyH_take (i := 4) rfl (by kernel_rfl) (by kernel_rfl) (by kernel_rfl) (fun _ _ _ h => h) (yieldsIf_load_mid (by rfl) _ _ rfl _ _ rfl _ _ (fun w h => h.2) Try.underlying66 rfl iKey) hHeld ?_
        try simp only [Act.put, List.getElem_toArray, List.getElem_cons_succ, List.getElem_cons_zero, List.setIfInBounds_toArray, List.set_cons_zero, List.set_cons_succ]
        refine wpAnyH_take (i := 5) (v := .agg #[.int .u64 0, .int .u64 0, .int .i64 0]) rfl (by kernel_rfl) (by kernel_rfl) (by kernel_rfl) (fun _ _ _ h => h) (Or.inl ⟨by rfl, fun w h => by go_simp⟩) hHeld ?_
        try simp only [Act.put, List.getElem_toArray, List.getElem_cons_succ, List.getElem_cons_zero, List.setIfInBounds_toArray, List.set_cons_zero, List.set_cons_succ]
        refine wpAnyH_ready (rs := [6]) (by kernel_rfl) (by simp) (AllReadyH.cons rfl (fun K hK => ?_) AllReadyH.nil)
        go_simp
        have hrs := CR.new V5 70 [.int .u64 0, .int .u64 0, .int .i64 0]
        have hbs := below_alloc V5 (.cells [.int .u64 0, .int .u64 0, .int .i64 0].toArray 70)
        refine hK.out _ _ ⟨(HO6.out.bel hbs).nw.row.at_ 10, (HZ6.out.bel hbs).rng⟩ (fun hHeld => ?_)
        clear hK K
        try simp only [Act.put, List.getElem_toArray, List.getElem_cons_succ, List.getElem_cons_zero, List.setIfInBounds_toArray, List.set_cons_zero, List.set_cons_succ]
        generalize (World.alloc _ _) = V6 at *
        have HSN := Lib.hid (Nat.le_refl V5.heap.size)
        obtain ⟨s, hs⟩ : ∃ x, V5.heap.size = x := ⟨_, rfl⟩
        rw [hs] at hrs ⊢
        have HS := Lib.hid hs
        have HRS := Lib.hid hrs
        have HBS := Lib.hid hbs
        have HO7 := Lib.hid (HO6.out.bel hbs)
        have HZ7 := Lib.hid (HZ6.out.bel hbs)
        clear hrs hbs hs HSN
        refine wpAnyH_ready (rs := [7]) (by kernel_rfl) (by simp) (AllReadyH.cons rfl (fun K hK => ?_) AllReadyH.nil)
        have HSM := Lib.hid (HO6.out.ex.choose_spec.1.bel HBS.out)
        refine S_sput (by rfl) _ _ _ rfl HSM.out (by decide) true true s rfl rfl rfl ?_
        intro w9 hm9 hg9
        have HN := Lib.hid (NL.step HO6.out true true rfl (by omega) HBS.out HRS.out (by rw [HS.out]; exact Nat.le_refl _) hm9 hg9)
        have hzz := (HZ7.out.grown hg9 (fun he => by injection he with he; exact sm_ne HSM.out HZ7.out he)).rng
        refine hK.out _ _ ⟨HN.out.nw.row.at_ 10, hzz⟩ (fun hHeld => ?_)
        clear hK K hm9 hg9 hzz HSM HO6 HZ6 HO7 HZ7 HRS HBS HS O
        try simp only [Act.put, List.getElem_toArray, List.getElem_cons_succ, List.getElem_cons_zero]
        refine wpAnyH_done (by kernel_rfl) ?_ _
        try simp only [Act.put, List.getElem_toArray, List.getElem_cons_succ, List.getElem_cons_zero]
        clear hHeld
        go_wp2
        exact ⟨⟨4, rfl, HN.out⟩, by simp⟩

end Go.Proofs.Yteekafpkbdbadaa.Pi
