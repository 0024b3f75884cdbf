/- pipe: Peer, ahead of any stream. -/
import Derived.Test.YteekafpkbdbadaaOK
set_option maxRecDepth 100000
set_option linter.unusedVariables false
namespace Go.Proofs.Yteekafpkbdbadaa.Pi
open Go.RowKit Go.Maps
section
variable {w w' : World} {role : Nat → Nat} {g : Nat} {T : TaS} {Y : TaY}
theorem CR.there {t : TypeId} {l : List Value} (h : CR w g t l) (i n : Nat) (hl : i + n ≤ l.length) : w.there g i n := fun j hj =>
  ⟨by rw [h.at_, List.getElem?_eq_getElem (by omega)]; rfl, h.fr _⟩
theorem L_store4 {ops : Array Oper} {rest : List Oper} {o : Oper} {f : Act} {Q : Exit → Act → World → Prop} (hgd : o.guard = none) (t : TypeId) (x y : Operand) (ho : o.op = .store t x y) {i : Nat} {t' : TypeId} {l : List Value} {a b c d : Value} (h : CR w g t' l) (hx : f.eval x = .pointer (some ⟨g, i, none⟩)) (hy : f.eval y = .agg #[a, b, c, d])
    (hi : (Try.prog.info? t).map (·.size) = some 4) (hl : i + 4 ≤ l.length) (h1 : ∀ v ∈ [a, b, c, d], v.oneCell' = true)
    (hK : ∀ w', CR w' g t' ((((l.set i a).set (i + 1) b).set (i + 2) c).set (i + 3) d) → w.grownBy w' (some g) → wpList Try.prog ops Q rest (f.put o.dst undef) w') : wpList Try.prog ops Q (o :: rest) f w :=
  wpList_store_mid hgd t x y ho g i #[a, b, c, d] hx hy (h.there i 4 hl) hi (all_oneCell_toArray (cs := [a, b, c, d]) h1) (hK _ (h.set4 i a b c d).1 (h.set4 i a b c d).2)
theorem KR.castL {b r cnt : Nat} {m : Bool → Bool → Option Nat} {left left' : Bool → Bool → Bool} (h : KR w b r m left cnt) (he : ∀ u t, left u t = left' u t) : KR w b r m left' cnt := by
  have : left = left' := by funext u t; exact he u t
  rw [← this]; exact h
theorem Stq.late {R : Nat → Prop} {w w1 w2 : World} {role role1 : Nat → Nat} {b : Nat} (h : Stq R w w1 role role1) (hg : w1.grownBy w2 (some b)) (hb : w.heap.size ≤ b) : Stq R w w2 role role1 :=
  ⟨⟨hg.os.trans h.kq.os, hg.tape.trans h.kq.tape, hg.output.trans h.kq.output, Nat.le_trans h.size hg.size, fun k hk hn => (hg.block k (Nat.lt_of_lt_of_le hk h.size) (fun he => by injection he with he; omega)).trans (h.blk k hk hn), h.old⟩, h.new, fun k hk => h.top k (Nat.le_trans hg.size hk)⟩
theorem peerSo_step {TB : TaS} {c d v : Nat} {sv y : Bool} {left : Bool → Bool → Bool} (hsv : TB.srv = sv) (hl : left sv y = true) (hv : v = if y then d else c) :
    Pi.setSo (peerSo TB c d left) sv y { (peerSo TB c d left).so sv y with may := max ((peerSo TB c d left).so sv y).may (min v 1152921504606846976) } = peerSo TB c d (fun u t => left u t && !(u == sv && t == y)) := by
  subst hsv hv
  have h0 : (peerSo TB c d left).so TB.srv y = TB.so TB.srv y := by unfold peerSo; simp [hl]
  rw [h0]
  unfold Pi.setSo peerSo
  simp only []
  congr 1
  funext u t
  by_cases hut : u = TB.srv ∧ t = y
  · obtain ⟨rfl, rfl⟩ := hut
    simp
  · rw [if_neg hut]
    have : (left u t && !(u == TB.srv && t == y)) = left u t := by
      have hf : (u == TB.srv && t == y) = false := by
        rw [Bool.and_eq_false_iff]
        by_cases hu : u = TB.srv
        · exact Or.inr (by simpa using fun hz => hut ⟨hu, hz⟩)
        · exact Or.inl (by simpa using hu)
      rw [hf]; simp
    rw [this]
theorem S_krange {b n : Nat} {m : Bool → Bool → Option Nat} {ops : Array Oper} {o : Oper} {f : Act} {K : Act → World → Prop} {Q : Exit → Act → World → Prop} {E : Prop} (hg : Region.wanted o (yielded ops f.tmps) = true) (x : Operand) (hop : o.op = Op.range 72 x) (h : KM w b n m) (hm : f.eval x = .map (some b))
    (hK : ∀ w' left cnt, KR w' b w.heap.size m left cnt → (∀ x y, m x y ≠ none → left x y = true) → w.grownBy w' none → w'.heap.size = w.heap.size + 1 → K (f.put o.dst (.pointer (some ⟨w.heap.size, 0, none⟩))) w') : if Region.wanted o (yielded ops f.tmps) = true then Oper.wp Try.prog o f w K Q else E := by
  rw [if_pos hg]
  obtain ⟨D, h1, h2, h3⟩ := h.own
  obtain ⟨w', hrun, r1, r2, r3⟩ := h1.range lawKey Try.underlying72
  unfold Oper.wp
  simp [execOp, hop, hm, hrun, Result.andThen]
  refine hK w' (fun x y => has D (kyl x y)) _ ⟨n, D, _, r1, h3, fun _ _ => rfl⟩ (fun x y hxy => ?_) r2 r3
  cases hh : has D (kyl x y)
  · have := atKey_of_not_has hh .nil
    rw [h3] at this
    cases hmx : m x y with
    | none => exact absurd hmx hxy
    | some v => rw [hmx] at this; cases this
  · rfl
structure BB where
  x : Bool
  y : Bool
theorem L_knextH {b r cnt : Nat} {m : Bool → Bool → Option Nat} {left : Bool → Bool → Bool} {ops : Array Oper} {rest : List Oper} {o : Oper} {f : Act} {Q : Exit → Act → World → Prop} (hg : o.guard = none) (it : Operand) (hop : o.op = Op.next it false) (h : KR w b r m left cnt) (hit : f.eval it = .pointer (some ⟨r, 0, none⟩))
    (hDone : Hid (∀ x y, left x y = false) → wpList Try.prog ops Q rest (f.put o.dst (.tuple #[.bool false])) w)
    (hMore : ∀ (z : BB) (v : Nat) (w' : World) (cnt' : Nat), Hid (left z.x z.y = true ∧ m z.x z.y = some v ∧ KR w' b r m (fun u t => left u t && !(u == z.x && t == z.y)) cnt' ∧ cnt' < cnt ∧ w.grownBy w' (some r) ∧ w'.heap.size = w.heap.size) → (Instr.entry (.pointer (some ⟨r, 0, none⟩))).run Try.prog w' = .ok (.tuple #[.agg #[.bool z.x, .bool z.y], .int .u64 (v : Int)]) w' → wpList Try.prog ops Q rest (f.put o.dst (.tuple #[.bool true, .agg #[.bool z.x, .bool z.y], .int .u64 (v : Int)])) w') : wpList Try.prog ops Q (o :: rest) f w :=
  L_knext hg it hop h hit (fun hh => hDone (Lib.hid hh)) (fun x y v w' cnt' h1 h2 h3 h4 h5 h6 h7 => hMore ⟨x, y⟩ v w' cnt' (Lib.hid ⟨h1, h2, h3, h4, h5, h6⟩) h7)
set_option maxHeartbeats 4000000 in
theorem peer_any (h : TZ w role g T Y) (hn : Y.n = 0) (a b c d : Nat) (hc : c < 18446744073709551616) (hd : d < 18446744073709551616) :
    Calls Try.prog 9 #[ptr g, .agg #[.int .u64 (a : Int), .int .u64 (b : Int), .int .u64 (c : Int), .int .u64 (d : Int)]] w fun e w' => e = .returned (.tuple #[]) ∧ TZ w' role g (peerS T a b c d) Y ∧ Stq (fun r => r ≠ 0) w w' role role := by
  have hb := below_alloc w (.cells #[.int .u64 (a : Int), .int .u64 (b : Int), .int .u64 (c : Int), .int .u64 (d : Int)] 27)
  have hr := CR.new w 27 [.int .u64 (a : Int), .int .u64 (b : Int), .int .u64 (c : Int), .int .u64 (d : Int)]
  obtain ⟨k, hk⟩ : ∃ k, w.heap.size = k := ⟨_, rfl⟩
  obtain ⟨w1, hw1⟩ : ∃ x, w.alloc (.cells #[.int .u64 (a : Int), .int .u64 (b : Int), .int .u64 (c : Int), .int .u64 (d : Int)] 27) = x := ⟨_, rfl⟩
  have hr' : CR w1 k 27 [.int .u64 (a : Int), .int .u64 (b : Int), .int .u64 (c : Int), .int .u64 (d : Int)] := by rw [← hw1, ← hk]; exact hr
  rw [hw1] at hb
  have gk : g ≠ k := by have := h.row.cr.lt; omega
  have HR := Lib.hid hr'
  have h1 := h.bel hb
  have t1 := Lib.hid (Stq.bel (R := fun r => r ≠ 0) hb h.top)
  have HGK := Lib.hid gk
  have HNK := Lib.hid (show w.heap.size ≤ k from Nat.le_of_eq hk)
  clear hb hr hr' gk
  have H := Lib.hid h1
  have H0 := Lib.hid h
  unfold ptr
  clear h h1
  go_enter Try.func9, Try.ntmps9
  go_upto_region 3 with (first
    | (refine L_loadG 27 _ rfl (by rfl) _ _ rfl _ _ HR.out.rng Try.underlying27 rfl iLim ?_)
    | (refine L_store4 rfl 27 _ _ rfl H.out.row.cr rfl rfl iLim (Nat.le_of_ble_eq_true rfl) (by simp [Value.oneCell']) ?_; intro w2 hc2 hg2))
  obtain ⟨h2, t2⟩ := H.out.setPe ⟨a, b, c, d⟩ hg2 hc2
  have hk2 := HR.out.grown hg2 (fun he => by injection he with he; exact HGK.out he.symm)
  have H2 := Lib.hid h2
  have t2' := Lib.hid (t1.out.trans t2)
  have HR2 := Lib.hid hk2
  have c11 : w2.cell? ⟨g, 11, none⟩ = some (.pointer (some ⟨Y.pu, 0, none⟩)) := H2.out.row.cr.at_ 11
  have ck1 : w2.cell? ⟨k, 1, none⟩ = some (.int .u64 (b : Int)) := HR2.out.at_ 1
  clear h2 t2 hk2 hc2 hg2 t1 H HR
  refine wp_region_held_drew (S := fun x => x.cell? ⟨g, 11, none⟩ = some (.pointer (some ⟨Y.pu, 0, none⟩)) ∧ x.cell? ⟨k, 1, none⟩ = some (.int .u64 (b : Int))) (by kernel_rfl) ⟨c11, ck1⟩ (fun hHeld => ?_)
  have bV : Below w2.heap.size w2 w2.drew := bel_drew _ _
  obtain ⟨V, hV⟩ : ∃ V, w2.drew = V := ⟨_, rfl⟩
  rw [hV] at hHeld bV ⊢
  have h3 := H2.out.bel bV
  have H3 := Lib.hid h3
  have HR3 := Lib.hid (HR2.out.bel bV)
  have t3 := Lib.hid (t2'.out.trans (Stq.bel bV H2.out.top))
  clear c11 ck1 bV hV h3
  refine wpAnyH_take (i := 0) (v := .pointer (some ⟨g, 0, none⟩)) rfl (by kernel_rfl) (by kernel_rfl) (by kernel_rfl) (fun _ _ _ h => h) (Or.inl ⟨by rfl, fun w h => by go_simp⟩) hHeld ?_
  try simp only [Act.put, List.getElem_toArray, List.getElem_cons_zero, List.setIfInBounds_toArray, List.set_cons_zero, List.set_cons_succ]
  refine wpAnyH_take (i := 1) (v := .pointer (some ⟨g, 0, none⟩)) rfl (by kernel_rfl) (by kernel_rfl) (by kernel_rfl) (fun _ _ _ h => h) (Or.inl ⟨by rfl, fun w h => by go_simp⟩) hHeld ?_
  try simp only [Act.put, List.getElem_toArray, List.getElem_cons_succ, List.getElem_cons_zero, List.setIfInBounds_toArray, List.set_cons_zero, List.set_cons_succ]
  refine wpAnyH_take (i := 2) (v := .pointer (some ⟨g, 11, none⟩)) rfl (by kernel_rfl) (by kernel_rfl) (by kernel_rfl) (fun _ _ _ h => h) (Or.inl ⟨by rfl, fun w h => by go_simp⟩) hHeld ?_
  try simp only [Act.put, List.getElem_toArray, List.getElem_cons_succ, List.getElem_cons_zero, List.setIfInBounds_toArray, List.set_cons_zero, List.set_cons_succ]
  refine wpAnyH_take (i := 3) (v := .pointer (some ⟨Y.pu, 0, none⟩)) rfl (by kernel_rfl) (by kernel_rfl) (by kernel_rfl) (fun _ _ _ h => h) (Or.inl ⟨by rfl, fun w h => by have h2 : w.cell? ⟨g, 11, none⟩ = some (.pointer (some ⟨Y.pu, 0, none⟩)) := h.1; go_simp⟩) hHeld ?_
  try simp only [Act.put, List.getElem_toArray, List.getElem_cons_succ, List.getElem_cons_zero, List.setIfInBounds_toArray, List.set_cons_zero, List.set_cons_succ]
  refine wpAnyH_take (i := 4) (v := .pointer (some ⟨k, 1, none⟩)) rfl (by kernel_rfl) (by kernel_rfl) (by kernel_rfl) (fun _ _ _ h => h) (Or.inl ⟨by rfl, fun w h => by go_simp⟩) hHeld ?_
  try simp only [Act.put, List.getElem_toArray, List.getElem_cons_succ, List.getElem_cons_zero, List.setIfInBounds_toArray, List.set_cons_zero, List.set_cons_succ]
  refine wpAnyH_take (i := 5) (v := .int .u64 (b : Int)) rfl (by kernel_rfl) (by kernel_rfl) (by kernel_rfl) (fun _ _ _ h => h) (Or.inl ⟨by rfl, fun w h => by have h2 : w.cell? ⟨k, 1, none⟩ = some (.int .u64 (b : Int)) := h.2; go_simp⟩) hHeld ?_
  try simp only [Act.put, List.getElem_toArray, List.getElem_cons_succ, List.getElem_cons_zero, List.setIfInBounds_toArray, List.set_cons_zero, List.set_cons_succ]
  refine wpAnyH_ready (rs := [6]) (by kernel_rfl) (by simp) (AllReadyH.cons rfl (fun K hK => ?_) AllReadyH.nil)
  go_simp
  go_at_call 21
  refine (grant_any H3.out.pu.1 b).mono ?_
  rintro y w4 ⟨⟨rr, rfl⟩, pu4, gr4⟩
  obtain ⟨h4, t4⟩ := H3.out.setPu _ _ gr4 pu4
  have hkp : k ≠ Y.pu := fun he => by have := H0.out.pu.1.lt; have := HNK.out; unfold PuZ at *; omega
  have HR4 := Lib.hid (HR3.out.grown gr4 (fun he => by injection he with he; exact hkp he))
  have H4 := Lib.hid h4
  have T4 := Lib.hid (t3.out.trans t4)
  refine hK.out _ _ ⟨H4.out.row.cr.at_ 11, HR4.out.at_ 1⟩ (fun hHeld => ?_)
  clear hK K hHeld
  try simp only [Act.put, List.getElem_toArray, List.getElem_cons_succ, List.getElem_cons_zero, List.setIfInBounds_toArray, List.set_cons_zero, List.set_cons_succ]
  refine wpAnyH_done (by kernel_rfl) ?_ _
  try simp only [Act.put, List.getElem_toArray, List.getElem_cons_succ, List.getElem_cons_zero]
  clear h4 t4 gr4 pu4 hkp H3 HR3 t3 H2 HR2 t2'
  obtain ⟨sv, hsv⟩ : ∃ b, T.srv = b := ⟨_, rfl⟩
  have c0 : w4.cell? ⟨g, 0, none⟩ = some (.bool sv) := by have hq := H4.out.row.cr.at_ 0; rw [← hsv]; exact hq
  have ck2 : w4.cell? ⟨k, 2, none⟩ = some (.int .u64 (c : Int)) := HR4.out.at_ 2
  have ck3 : w4.cell? ⟨k, 3, none⟩ = some (.int .u64 (d : Int)) := HR4.out.at_ 3
  have HSV := Lib.hid hsv
  clear hsv
  go_wp2_with fail
  refine wp_region_held_drew (S := fun x => x.cell? ⟨g, 0, none⟩ = some (.bool sv) ∧ x.cell? ⟨k, 2, none⟩ = some (.int .u64 (c : Int)) ∧ x.cell? ⟨k, 3, none⟩ = some (.int .u64 (d : Int))) (by kernel_rfl) ⟨c0, ck2, ck3⟩ (fun hHeld => ?_)
  have bV : Below w4.heap.size w4 w4.drew := bel_drew _ _
  obtain ⟨V, hV⟩ : ∃ V, w4.drew = V := ⟨_, rfl⟩
  rw [hV] at hHeld bV ⊢
  have H5 := Lib.hid (H4.out.bel bV)
  have HR5 := Lib.hid (HR4.out.bel bV)
  have t5 := Lib.hid (T4.out.trans (Stq.bel bV H4.out.top))
  clear c0 ck2 ck3 bV hV
  have hmm : ∀ (t : TypeId) (x : World), (Instr.makeMap t none).run Try.prog x = .ok (.map (some x.heap.size)) (x.alloc (.map #[] 0)) := fun _ _ => rfl
  refine wpAnyH_take (i := 1) (v := .pointer (some ⟨g, 0, none⟩)) rfl (by kernel_rfl) (by kernel_rfl) (by kernel_rfl) (fun _ _ _ h => h) (Or.inl ⟨by rfl, fun w h => by go_simp⟩) hHeld ?_
  try simp only [Act.put, List.getElem_toArray, List.getElem_cons_succ, List.getElem_cons_zero, List.setIfInBounds_toArray, List.set_cons_zero, List.set_cons_succ]
  refine wpAnyH_take (i := 2) (v := .pointer (some ⟨g, 0, none⟩)) rfl (by kernel_rfl) (by kernel_rfl) (by kernel_rfl) (fun _ _ _ h => h) (Or.inl ⟨by rfl, fun w h => by go_simp⟩) hHeld ?_
  try simp only [Act.put, List.getElem_toArray, List.getElem_cons_succ, List.getElem_cons_zero, List.setIfInBounds_toArray, List.set_cons_zero, List.set_cons_succ]
  refine wpAnyH_take (i := 3) (v := .pointer (some ⟨g, 0, none⟩)) rfl (by kernel_rfl) (by kernel_rfl) (by kernel_rfl) (fun _ _ _ h => h) (Or.inl ⟨by rfl, fun w h => by go_simp⟩) hHeld ?_
  try simp only [Act.put, List.getElem_toArray, List.getElem_cons_succ, List.getElem_cons_zero, List.setIfInBounds_toArray, List.set_cons_zero, List.set_cons_succ]
  refine wpAnyH_take (i := 4) (v := .bool sv) rfl (by kernel_rfl) (by kernel_rfl) (by kernel_rfl) (fun _ _ _ h => h) (Or.inl ⟨by rfl, fun w h => by have h2 : w.cell? ⟨g, 0, none⟩ = some (.bool sv) := h.1; go_simp⟩) hHeld ?_
  try simp only [Act.put, List.getElem_toArray, List.getElem_cons_succ, List.getElem_cons_zero, List.setIfInBounds_toArray, List.set_cons_zero, List.set_cons_succ]
  refine wpAnyH_take (i := 5) (v := .agg #[.bool sv, .bool false]) rfl (by kernel_rfl) (by kernel_rfl) (by kernel_rfl) (fun _ _ _ h => h) (Or.inl ⟨by rfl, fun w h => by go_simp⟩) hHeld ?_
  try simp only [Act.put, List.getElem_toArray, List.getElem_cons_succ, List.getElem_cons_zero, List.setIfInBounds_toArray, List.set_cons_zero, List.set_cons_succ]
  refine wpAnyH_take (i := 6) (v := .pointer (some ⟨k, 2, none⟩)) rfl (by kernel_rfl) (by kernel_rfl) (by kernel_rfl) (fun _ _ _ h => h) (Or.inl ⟨by rfl, fun w h => by go_simp⟩) hHeld ?_
  try simp only [Act.put, List.getElem_toArray, List.getElem_cons_succ, List.getElem_cons_zero, List.setIfInBounds_toArray, List.set_cons_zero, List.set_cons_succ]
  refine wpAnyH_take (i := 7) (v := .int .u64 (c : Int)) rfl (by kernel_rfl) (by kernel_rfl) (by kernel_rfl) (fun _ _ _ h => h) (Or.inl ⟨by rfl, fun w h => by have h2 : w.cell? ⟨k, 2, none⟩ = some (.int .u64 (c : Int)) := h.2.1; go_simp⟩) hHeld ?_
  try simp only [Act.put, List.getElem_toArray, List.getElem_cons_succ, List.getElem_cons_zero, List.setIfInBounds_toArray, List.set_cons_zero, List.set_cons_succ]
  refine wpAnyH_take (i := 9) (v := .pointer (some ⟨g, 0, none⟩)) rfl (by kernel_rfl) (by kernel_rfl) (by kernel_rfl) (fun _ _ _ h => h) (Or.inl ⟨by rfl, fun w h => by go_simp⟩) hHeld ?_
  try simp only [Act.put, List.getElem_toArray, List.getElem_cons_succ, List.getElem_cons_zero, List.setIfInBounds_toArray, List.set_cons_zero, List.set_cons_succ]
  refine wpAnyH_take (i := 10) (v := .pointer (some ⟨g, 0, none⟩)) rfl (by kernel_rfl) (by kernel_rfl) (by kernel_rfl) (fun _ _ _ h => h) (Or.inl ⟨by rfl, fun w h => by go_simp⟩) hHeld ?_
  try simp only [Act.put, List.getElem_toArray, List.getElem_cons_succ, List.getElem_cons_zero, List.setIfInBounds_toArray, List.set_cons_zero, List.set_cons_succ]
  refine wpAnyH_take (i := 11) (v := .pointer (some ⟨g, 0, none⟩)) rfl (by kernel_rfl) (by kernel_rfl) (by kernel_rfl) (fun _ _ _ h => h) (Or.inl ⟨by rfl, fun w h => by go_simp⟩) hHeld ?_
  try simp only [Act.put, List.getElem_toArray, List.getElem_cons_succ, List.getElem_cons_zero, List.setIfInBounds_toArray, List.set_cons_zero, List.set_cons_succ]
  refine wpAnyH_take (i := 12) (v := .bool sv) rfl (by kernel_rfl) (by kernel_rfl) (by kernel_rfl) (fun _ _ _ h => h) (Or.inl ⟨by rfl, fun w h => by have h2 : w.cell? ⟨g, 0, none⟩ = some (.bool sv) := h.1; go_simp⟩) hHeld ?_
  try simp only [Act.put, List.getElem_toArray, List.getElem_cons_succ, List.getElem_cons_zero, List.setIfInBounds_toArray, List.set_cons_zero, List.set_cons_succ]
  refine wpAnyH_take (i := 13) (v := .agg #[.bool sv, .bool true]) rfl (by kernel_rfl) (by kernel_rfl) (by kernel_rfl) (fun _ _ _ h => h) (Or.inl ⟨by rfl, fun w h => by go_simp⟩) hHeld ?_
  try simp only [Act.put, List.getElem_toArray, List.getElem_cons_succ, List.getElem_cons_zero, List.setIfInBounds_toArray, List.set_cons_zero, List.set_cons_succ]
  refine wpAnyH_take (i := 14) (v := .pointer (some ⟨k, 3, none⟩)) rfl (by kernel_rfl) (by kernel_rfl) (by kernel_rfl) (fun _ _ _ h => h) (Or.inl ⟨by rfl, fun w h => by go_simp⟩) hHeld ?_
  try simp only [Act.put, List.getElem_toArray, List.getElem_cons_succ, List.getElem_cons_zero, List.setIfInBounds_toArray, List.set_cons_zero, List.set_cons_succ]
  refine wpAnyH_take (i := 15) (v := .int .u64 (d : Int)) rfl (by kernel_rfl) (by kernel_rfl) (by kernel_rfl) (fun _ _ _ h => h) (Or.inl ⟨by rfl, fun w h => by have h2 : w.cell? ⟨k, 3, none⟩ = some (.int .u64 (d : Int)) := h.2.2; go_simp⟩) hHeld ?_
  try simp only [Act.put, List.getElem_toArray, List.getElem_cons_succ, List.getElem_cons_zero, List.setIfInBounds_toArray, List.set_cons_zero, List.set_cons_succ]
  refine wpAnyH_ready (rs := [0]) (by kernel_rfl) (by simp) (AllReadyH.cons rfl (fun K hK => ?_) AllReadyH.nil)
  go_simp
  have hm0 : KM (V.alloc (.map #[] 0)) V.heap.size 0 (fun _ _ => none) := KM.made _
  obtain ⟨mb, hmb⟩ : ∃ q, V.heap.size = q := ⟨_, rfl⟩
  have HZ := Lib.hid (fun (x : World) (hg : (V.alloc (.map #[] 0)).grownBy x (some mb)) => (show V.grownBy x (some mb) from (grown_bel (below_alloc V (.map #[] 0)) _).andThen hg (fun j hj => by cases hj; exact Or.inr rfl)))
  have HMB := Lib.hid hmb
  have HS := Lib.hid (fun (x : World) (z : V.grownBy x (some mb)) => (⟨by have hq := (H5.out.row.cr.grown z (fun he => by have := H5.out.row.cr.lt; injection he with he; have := HMB.out; omega)).at_ 0; rw [← HSV.out]; exact hq, (HR5.out.grown z (fun he => by have := HR5.out.lt; injection he with he; have := HMB.out; omega)).at_ 2, (HR5.out.grown z (fun he => by have := HR5.out.lt; injection he with he; have := HMB.out; omega)).at_ 3⟩ : x.cell? ⟨g, 0, none⟩ = some (.bool sv) ∧ x.cell? ⟨k, 2, none⟩ = some (.int .u64 (c : Int)) ∧ x.cell? ⟨k, 3, none⟩ = some (.int .u64 (d : Int))))
  refine hK.out _ _ (HS.out _ (grown_bel (below_alloc V (.map #[] 0)) _)) (fun hHeld => ?_)
  clear hK K
  try simp only [Act.put, List.getElem_toArray, List.getElem_cons_succ, List.getElem_cons_zero, List.setIfInBounds_toArray, List.set_cons_zero, List.set_cons_succ]
  rw [hmb] at hm0 ⊢
  generalize (World.alloc V _) = va at *
  refine (fun (hka : Hid (∀ (w' : World), (KM w' mb 2 (peerM sv c d) ∧ V.grownBy w' (some mb)) → (?Pa : World → Prop) w')) => ?maina) (Lib.hid ?resta)
  case maina =>
    refine wpAnyH_ready (rs := [8, 16]) (by kernel_rfl) (by simp) (AllReadyH.cons rfl (fun K hK => ?qa) (AllReadyH.cons rfl (fun K hK => ?qb) AllReadyH.nil))
    case qa =>
      refine S_kput (by rfl) _ _ _ rfl hm0 (by decide) sv false c hc rfl rfl rfl ?_
      intro w6 hm6 hg6
      have z6 := HZ.out _ hg6
      refine hK.out _ _ (HS.out _ z6) (fun hHeld => ?_)
      clear hK K
      try simp only [Act.put, List.getElem_toArray, List.getElem_cons_succ, List.getElem_cons_zero]
      refine wpAnyH_ready (rs := [16]) (by kernel_rfl) (by simp) (AllReadyH.cons rfl (fun K hK => ?_) AllReadyH.nil)
      refine S_kput (by rfl) _ _ _ rfl hm6 (by decide) sv true d hd rfl rfl rfl ?_
      intro w7 hm7 hg7
      have z7 := z6.trans hg7
      refine hK.out _ _ (HS.out _ z7) (fun hHeld => ?_)
      clear hK K hHeld
      try simp only [Act.put, List.getElem_toArray, List.getElem_cons_succ, List.getElem_cons_zero]
      exact hka.out w7 ⟨hm7.cast (fun x y => by unfold peerM; cases x <;> cases y <;> cases sv <;> rfl), z7⟩
    case qb =>
      refine S_kput (by rfl) _ _ _ rfl hm0 (by decide) sv true d hd rfl rfl rfl ?_
      intro w6 hm6 hg6
      have z6 := HZ.out _ hg6
      refine hK.out _ _ (HS.out _ z6) (fun hHeld => ?_)
      clear hK K
      try simp only [Act.put, List.getElem_toArray, List.getElem_cons_succ, List.getElem_cons_zero]
      refine wpAnyH_ready (rs := [8]) (by kernel_rfl) (by simp) (AllReadyH.cons rfl (fun K hK => ?_) AllReadyH.nil)
      refine S_kput (by rfl) _ _ _ rfl hm6 (by decide) sv false c hc rfl rfl rfl ?_
      intro w7 hm7 hg7
      have z7 := z6.trans hg7
      refine hK.out _ _ (HS.out _ z7) (fun hHeld => ?_)
      clear hK K hHeld
      try simp only [Act.put, List.getElem_toArray, List.getElem_cons_succ, List.getElem_cons_zero]
      exact hka.out w7 ⟨hm7.cast (fun x y => by unfold peerM; cases x <;> cases y <;> cases sv <;> rfl), z7⟩
  case resta =>
    rintro w7 ⟨hm7, z7⟩
    have hHeld := HS.out _ z7
    refine wpAnyH_take (i := 17) (v := .map (some mb)) rfl (by kernel_rfl) (by kernel_rfl) (by kernel_rfl) (fun _ _ _ h => h) (Or.inl ⟨by rfl, fun w h => by go_simp⟩) hHeld ?_
    try simp only [Act.put, List.getElem_toArray, List.getElem_cons_succ, List.getElem_cons_zero, List.setIfInBounds_toArray, List.set_cons_zero, List.set_cons_succ]
    refine wpAnyH_ready (rs := [18]) (by kernel_rfl) (by simp) (AllReadyH.cons rfl (fun K hK => ?_) AllReadyH.nil)
    refine S_krange (by rfl) _ rfl hm7 rfl ?_
    intro w8 left0 cnt0 kr8 hl0 g8 s8
    have z8 : V.grownBy w8 (some mb) := z7.andThen g8 (fun j hj => by cases hj)
    refine hK.out _ _ (HS.out _ z8) (fun hHeld => ?_)
    clear hK K hHeld
    try simp only [Act.put, List.getElem_toArray, List.getElem_cons_succ, List.getElem_cons_zero, List.setIfInBounds_toArray, List.set_cons_zero, List.set_cons_succ]
    refine wpAnyH_done (by kernel_rfl) ?_ _
    try simp only [Act.put, List.getElem_toArray, List.getElem_cons_succ, List.getElem_cons_zero]
    obtain ⟨kr, hkr⟩ : ∃ q, w7.heap.size = q := ⟨_, rfl⟩
    rw [hkr] at kr8 ⊢
    have b8 : Below V.heap.size V w8 := (Below.refl V.heap.size V).grown z8 (Nat.le_refl _) (fun j hj => by cases hj; rw [HMB.out]; exact Nat.le_refl _)
    obtain ⟨TB, hTB⟩ : ∃ t : TaS, t = { T with pe := ⟨a, b, c, d⟩, pl := max T.pl (min b 4611686018427387903) } := ⟨_, rfl⟩
    have H8 := H5.out.bel b8
    have e8 : ({ T with pe := ⟨a, b, c, d⟩, pl := max T.pl (min b 4611686018427387903), ps := T.ps } : TaS) = peerSo TB c d left0 := by
      rw [hTB]
      have hso : T.so = fun x y => if x = T.srv ∧ left0 x y = false then { T.so x y with may := max (T.so x y).may (min (if y then d else c) 1152921504606846976) } else T.so x y := by
        funext x y
        by_cases hx : x = T.srv
        · rw [hl0 x y (by unfold peerM; rw [if_pos (by rw [hx]; exact HSV.out)]; exact fun he => by cases he)]
          simp
        · rw [if_neg (fun hh => hx hh.1)]
      unfold peerSo
      simp only []
      rw [← hso]
    have H9 : TZ w8 role g (peerSo TB c d left0) Y := by rw [← e8]; exact H8
    have t9 := t5.out.trans (Stq.bel b8 H5.out.top)
    have hmk : mb ≠ kr := by have := hm7.lt; omega
    have hso : ∀ x y, Y.so x y ≠ mb ∧ Y.so x y ≠ kr := fun x y => by
      have q1 := (H5.out.so x y).cr.lt
      have q2 := hm7.lt
      have q3 := z7.size
      have q4 := HMB.out
      omega
    have HB9 := Lib.hid H9
    have HT9 := Lib.hid t9
    have HKR := Lib.hid kr8
    have HNE := Lib.hid hmk
    have HRK := Lib.hid (show role mb = 0 ∧ role kr = 0 ∧ w.heap.size ≤ kr ∧ k < kr from ⟨H5.out.top mb (by rw [HMB.out]; exact Nat.le_refl _), H5.out.top kr (by have := z7.size; omega), by have := z7.size; have := t5.out.size; omega, by have := z7.size; have := HR5.out.lt; omega⟩)
    have HSO := Lib.hid hso
    have HTB := Lib.hid hTB
    have HHC := Lib.hid (And.intro hc hd)
    have HLO := Lib.hid (show k < V.heap.size ∧ k < w8.heap.size ∧ g < V.heap.size from ⟨HR5.out.lt, Nat.lt_of_lt_of_le HR5.out.lt b8.size, H5.out.row.cr.lt⟩)
    have HR8 := Lib.hid (HR5.out.bel b8)
    have HN := Lib.hid hn
    clear hn hmm hkr hc hd hm7 z7 g8 s8 z8 b8 hTB H8 e8 H9 t9 hmk hso kr8 hl0 HS HZ H5 HR5 t5 H4 HR4 T4
    go_wp2_with fail
    go_loopw [4, 5] (fun _ _ wr => ∃ (left : Bool → Bool → Bool) (cnt : Nat), KR wr mb kr (peerM sv c d) left cnt ∧ TZ wr role g (peerSo TB c d left) Y ∧ Stq (fun r => r ≠ 0) w wr role role ∧ CR wr k 27 [.int .u64 (a : Int), .int .u64 (b : Int), .int .u64 (c : Int), .int .u64 (d : Int)])
      (fun _ _ wr => wr.rangeLeft mb kr)
    case atStart => exact ⟨_, _, HKR.out, HB9.out, HT9.out, HR8.out⟩
    case round =>
      obtain ⟨left, cnt, hkr, htz, hst, hcr⟩ := hrel
      have HK := Lib.hid hkr
      have HTZ := Lib.hid htz
      have HST := Lib.hid hst
      have HCR := Lib.hid hcr
      clear hkr htz hst hcr
      go_wp2_with (refine L_knextH rfl _ rfl HK.out rfl ?_ ?_)
      · intro HALL
        have hall := HALL.out
        have hz : TZ wr role g (peerS T a b c d) Y := by
          have he : left = fun _ _ => false := by obtain ⟨⟨a1, a2⟩, a3, a4⟩ := hall; funext x y; cases x <;> cases y <;> assumption
          have hq := HTZ.out
          rw [he, HTB.out] at hq
          exact hq
        have HZ := Lib.hid hz
        have c9 : wr.cell? ⟨g, 9, none⟩ = some (.map (some Y.ml)) := HZ.out.row.cr.at_ 9
        have HLM := Lib.hid (show LM wr Y.ml 0 _ by have hq := HZ.out.lm.1; rw [HN.out] at hq; exact hq)
        clear hz hall
        go_wp2_with (refine L_lrange0 rfl _ rfl HLM.out rfl ?_; intro w9 hl9 hg9 hs9)
        obtain ⟨rr, hrr⟩ : ∃ q, wr.heap.size = q := ⟨_, rfl⟩
        rw [hrr] at hl9 ⊢
        have HL9 := Lib.hid hl9
        have HG9 := Lib.hid hg9
        have HRR := Lib.hid hrr
        clear c9 hl9 hg9 hs9 hrr
        refine wp_loop_rounds 1 ?_
        rw [rounds_succ]
        go_wp2_with (refine L_lnext0 rfl _ rfl HL9.out rfl ?_)
        go_end0
        have b9 : Below wr.heap.size wr w9 := (Below.refl wr.heap.size wr).grown HG9.out (Nat.le_refl _) (fun j hj => by cases hj)
        exact ⟨rfl, HZ.out.bel b9, HST.out.trans (Stq.bel b9 HZ.out.top)⟩
      · intro z v w9 cnt' HM hen
        obtain ⟨x, y⟩ := z
        go_wp2_with fail
        obtain ⟨hl, hm, hk9, hlt, hg9, hs9⟩ := HM.out
        have hm' : peerM sv c d x y = some v := hm
        have hl' : left x y = true := hl
        have hx : x = sv := by
          unfold peerM at hm'
          by_cases hx : x = sv
          · exact hx
          · rw [if_neg hx] at hm'; cases hm'
        have hv : v = if y then d else c := by unfold peerM at hm'; rw [if_pos hx] at hm'; injection hm' with hm'; exact hm'.symm
        have hk9' : KR w9 mb kr (peerM sv c d) (fun u t => left u t && !(u == x && t == y)) cnt' := hk9.castL (fun u t => by cases u <;> cases t <;> cases x <;> cases y <;> simp)
        rw [hx] at hl' hk9' ⊢
        have z9 := Stq.grown (R := fun r => r = 0) hg9 HRK.out.2.1 HTZ.out.top
        have hz9 : TZ w9 role g (peerSo TB c d left) Y := HTZ.out.stq z9 (fun r h0 _ he => by omega) (fun id _ j _ he => by unfold rid at he; omega)
        have bA := below_alloc w9 (.cells #[.bool sv, .bool y] 66)
        have hrA := CR.new w9 66 [.bool sv, .bool y]
        obtain ⟨kb, hkb⟩ : ∃ q, w9.heap.size = q := ⟨_, rfl⟩
        have hcA := (HCR.out.grown hg9 (fun he => by injection he with he; have := HRK.out.2.2.2; omega)).bel bA
        have hstA := (HST.out.late hg9 HRK.out.2.2.1).trans (Stq.bel bA hz9.top)
        have hzA := hz9.bel bA
        have hkA := hk9'.bel bA
        have hmeas : cnt' < cnt := hlt
        have HW9 := Lib.hid (show w9.heap.size = kb from hkb)
        obtain ⟨wa, hwa⟩ : ∃ q, w9.alloc (.cells #[.bool sv, .bool y] 66) = q := ⟨_, rfl⟩
        have hrA' : CR wa kb 66 [.bool sv, .bool y] := by rw [← hwa, ← hkb]; exact hrA
        rw [hwa] at hcA hstA hzA hkA
        rw [hkb, hwa]
        have bD := bel_drew wa.heap.size wa
        obtain ⟨V, hV⟩ : ∃ q, wa.drew = q := ⟨_, rfl⟩
        rw [hV] at bD
        have HZV := Lib.hid (hzA.bel bD)
        have HKV := Lib.hid (hkA.bel bD)
        have HCV := Lib.hid (hcA.bel bD)
        have HRV := Lib.hid (hrA'.bel bD)
        have HSTV := Lib.hid (hstA.trans (Stq.bel bD hzA.top))
        have HV0 := Lib.hid hv
        have HL0 := Lib.hid hl'
        have HME := Lib.hid hmeas
        obtain ⟨so, hso⟩ : ∃ q, Y.so sv y = q := ⟨_, rfl⟩
        obtain ⟨may, hmay⟩ : ∃ q, ((peerSo TB c d left).so sv y).may = q := ⟨_, rfl⟩
        obtain ⟨X, hX⟩ : ∃ q, min v 1152921504606846976 = q := ⟨_, rfl⟩
        obtain ⟨Z, hZ⟩ : ∃ q, max may X = q := ⟨_, rfl⟩
        have hmn : ∀ (ts : Array TypeId) (t : TypeId) (W : World), (Builtin.min_ ts t #[.int .u64 (v : Int), .int .u64 1152921504606846976]).run Try.prog W = .ok (.int .u64 (X : Int)) W := fun ts t W => by rw [← hX]; exact min2 W ts t v 1152921504606846976
        have hmd : ∀ (ts : Array TypeId) (t : TypeId) (W : World), (Builtin.max_ ts t #[.int .u64 (may : Int), .int .u64 (X : Int)]).run Try.prog W = .ok (.int .u64 (Z : Int)) W := fun ts t W => by rw [← hZ]; exact max2 W ts t may X
        have hne : so ≠ kb := fun he => by have := (hz9.so sv y).cr.lt; rw [hso] at this; omega
        have hq1 := HZV.out.setSoC sv y 1 (u64 Z) (s := { (peerSo TB c d left).so sv y with may := Z }) rfl
        have s1 : V.cell? ⟨so, 1, none⟩ = some (.int .u64 (may : Int)) := by have hq := (HZV.out.so sv y).cr.at_ 1; rw [hso, show ((peerSo TB c d left).so sv y).may = may from hmay] at hq; exact hq
        have f1 : V.frozen? ⟨so, 1, none⟩ = false := by have hq := (HZV.out.so sv y).cr.fr 1; rw [hso] at hq; exact hq
        rw [hso] at hq1
        unfold u64 at hq1
        have HQ1 := Lib.hid hq1
        have HF := Lib.hid (fun (u : World) (T' : TaS) (z : TZ u role g T' Y) (r : CR u kb 66 [.bool sv, .bool y]) => (⟨z.row.cr.at_ 10, r.rng, by have hq := z.sm.1.choose_spec.look sv y; rw [hso] at hq; exact hq⟩ : u.cell? ⟨g, 10, none⟩ = some (.map (some Y.ms)) ∧ u.rangeAt kb 0 [.bool sv, .bool y] ∧ (Instr.lookup 57 (.map (some Y.ms)) (.agg #[.bool sv, .bool y]) false).run Try.prog u = .ok (.pointer (some ⟨so, 0, none⟩)) u))
        have HNEK := Lib.hid hne
        have HSO2 := Lib.hid hso
        have HMAY := Lib.hid hmay
        have HX := Lib.hid hX
        have HZ2 := Lib.hid hZ
        have hs0 := HF.out _ _ HZV.out HRV.out
        clear hX hZ hmay hso hq1 hne hl hm hk9 hlt hg9 hs9 hm' hl' hx hv hk9' z9 hz9 bA hrA hcA hstA hzA hkA hmeas hwa hrA' bD hen hkb
        refine wp_region_held_drew (S := fun u => u.cell? ⟨g, 10, none⟩ = some (.map (some Y.ms)) ∧ u.rangeAt kb 0 [.bool sv, .bool y] ∧ (Instr.lookup 57 (.map (some Y.ms)) (.agg #[.bool sv, .bool y]) false).run Try.prog u = .ok (.pointer (some ⟨so, 0, none⟩)) u) (by kernel_rfl) (by rw [hV]; exact hs0) (fun hHeld => ?_)
        rw [hV] at hHeld ⊢
        clear hV hs0
        refine wpAnyH_take (i := 0) (v := .pointer (some ⟨g, 0, none⟩)) rfl (by kernel_rfl) (by kernel_rfl) (by kernel_rfl) (fun _ _ _ h => h) (Or.inl ⟨by rfl, fun w h => by go_simp⟩) hHeld ?_
        try simp only [Act.put, List.getElem_toArray, List.getElem_cons_zero, List.setIfInBounds_toArray, List.set_cons_zero, List.set_cons_succ]
        refine wpAnyH_take (i := 1) (v := .pointer (some ⟨g, 0, none⟩)) rfl (by kernel_rfl) (by kernel_rfl) (by kernel_rfl) (fun _ _ _ h => h) (Or.inl ⟨by rfl, fun w h => by go_simp⟩) hHeld ?_
        try simp only [Act.put, List.getElem_toArray, List.getElem_cons_succ, List.getElem_cons_zero, List.setIfInBounds_toArray, List.set_cons_zero, List.set_cons_succ]
        refine wpAnyH_take (i := 2) (v := .pointer (some ⟨g, 10, none⟩)) rfl (by kernel_rfl) (by kernel_rfl) (by kernel_rfl) (fun _ _ _ h => h) (Or.inl ⟨by rfl, fun w h => by go_simp⟩) hHeld ?_
        try simp only [Act.put, List.getElem_toArray, List.getElem_cons_succ, List.getElem_cons_zero, List.setIfInBounds_toArray, List.set_cons_zero, List.set_cons_succ]
        refine wpAnyH_take (i := 3) (v := .map (some Y.ms)) rfl (by kernel_rfl) (by kernel_rfl) (by kernel_rfl) (fun _ _ _ h => h) (Or.inl ⟨by rfl, fun w h => by go_simp⟩) hHeld ?_
        try simp only [Act.put, List.getElem_toArray, List.getElem_cons_succ, List.getElem_cons_zero, List.setIfInBounds_toArray, List.set_cons_zero, List.set_cons_succ]
        refine wpAnyH_take (i := 4) rfl (by kernel_rfl) (by kernel_rfl) (by kernel_rfl) (fun _ _ _ h => h) (yieldsIf_load_mid (by rfl) _ _ rfl _ _ rfl _ _ (fun w h => h.2.1) Try.underlying66 rfl iKey) hHeld ?_
        try simp only [Act.put, List.getElem_toArray, List.getElem_cons_succ, List.getElem_cons_zero, List.setIfInBounds_toArray, List.set_cons_zero, List.set_cons_succ]
        refine wpAnyH_take (i := 5) (v := .pointer (some ⟨so, 0, none⟩)) rfl (by kernel_rfl) (by kernel_rfl) (by kernel_rfl) (fun _ _ _ h => h) (Or.inl ⟨by rfl, fun w h => by go_simp⟩) hHeld ?_
        try simp only [Act.put, List.getElem_toArray, List.getElem_cons_succ, List.getElem_cons_zero, List.setIfInBounds_toArray, List.set_cons_zero, List.set_cons_succ]
        refine wpAnyH_take (i := 6) (v := .pointer (some ⟨g, 0, none⟩)) rfl (by kernel_rfl) (by kernel_rfl) (by kernel_rfl) (fun _ _ _ h => h) (Or.inl ⟨by rfl, fun w h => by go_simp⟩) hHeld ?_
        try simp only [Act.put, List.getElem_toArray, List.getElem_cons_succ, List.getElem_cons_zero, List.setIfInBounds_toArray, List.set_cons_zero, List.set_cons_succ]
        refine wpAnyH_take (i := 7) (v := .pointer (some ⟨g, 0, none⟩)) rfl (by kernel_rfl) (by kernel_rfl) (by kernel_rfl) (fun _ _ _ h => h) (Or.inl ⟨by rfl, fun w h => by go_simp⟩) hHeld ?_
        try simp only [Act.put, List.getElem_toArray, List.getElem_cons_succ, List.getElem_cons_zero, List.setIfInBounds_toArray, List.set_cons_zero, List.set_cons_succ]
        refine wpAnyH_take (i := 8) (v := .pointer (some ⟨g, 10, none⟩)) rfl (by kernel_rfl) (by kernel_rfl) (by kernel_rfl) (fun _ _ _ h => h) (Or.inl ⟨by rfl, fun w h => by go_simp⟩) hHeld ?_
        try simp only [Act.put, List.getElem_toArray, List.getElem_cons_succ, List.getElem_cons_zero, List.setIfInBounds_toArray, List.set_cons_zero, List.set_cons_succ]
        refine wpAnyH_take (i := 9) (v := .map (some Y.ms)) rfl (by kernel_rfl) (by kernel_rfl) (by kernel_rfl) (fun _ _ _ h => h) (Or.inl ⟨by rfl, fun w h => by go_simp⟩) hHeld ?_
        try simp only [Act.put, List.getElem_toArray, List.getElem_cons_succ, List.getElem_cons_zero, List.setIfInBounds_toArray, List.set_cons_zero, List.set_cons_succ]
        refine wpAnyH_take (i := 10) rfl (by kernel_rfl) (by kernel_rfl) (by kernel_rfl) (fun _ _ _ h => h) (yieldsIf_load_mid (by rfl) _ _ rfl _ _ rfl _ _ (fun w h => h.2.1) Try.underlying66 rfl iKey) hHeld ?_
        try simp only [Act.put, List.getElem_toArray, List.getElem_cons_succ, List.getElem_cons_zero, List.setIfInBounds_toArray, List.set_cons_zero, List.set_cons_succ]
        refine wpAnyH_take (i := 11) (v := .pointer (some ⟨so, 0, none⟩)) rfl (by kernel_rfl) (by kernel_rfl) (by kernel_rfl) (fun _ _ _ h => h) (Or.inl ⟨by rfl, fun w h => by go_simp⟩) hHeld ?_
        try simp only [Act.put, List.getElem_toArray, List.getElem_cons_succ, List.getElem_cons_zero, List.setIfInBounds_toArray, List.set_cons_zero, List.set_cons_succ]
        refine wpAnyH_take (i := 12) (v := .pointer (some ⟨so, 0, none⟩)) rfl (by kernel_rfl) (by kernel_rfl) (by kernel_rfl) (fun _ _ _ h => h) (Or.inl ⟨by rfl, fun w h => by go_simp⟩) hHeld ?_
        try simp only [Act.put, List.getElem_toArray, List.getElem_cons_succ, List.getElem_cons_zero, List.setIfInBounds_toArray, List.set_cons_zero, List.set_cons_succ]
        refine wpAnyH_take (i := 13) (v := .pointer (some ⟨so, 1, none⟩)) rfl (by kernel_rfl) (by kernel_rfl) (by kernel_rfl) (fun _ _ _ h => h) (Or.inl ⟨by rfl, fun w h => by go_simp⟩) hHeld ?_
        try simp only [Act.put, List.getElem_toArray, List.getElem_cons_succ, List.getElem_cons_zero, List.setIfInBounds_toArray, List.set_cons_zero, List.set_cons_succ]
        refine wpAnyH_take (i := 15) (v := .int .u64 (v : Int)) rfl (by kernel_rfl) (by kernel_rfl) (by kernel_rfl) (fun _ _ _ h => h) (Or.inl ⟨by rfl, fun w h => by go_simp⟩) hHeld ?_
        try simp only [Act.put, List.getElem_toArray, List.getElem_cons_succ, List.getElem_cons_zero, List.setIfInBounds_toArray, List.set_cons_zero, List.set_cons_succ]
        refine wpAnyH_take (i := 16) (v := .int .u64 (X : Int)) rfl (by kernel_rfl) (by kernel_rfl) (by kernel_rfl) (fun _ _ _ h => h) (Or.inl ⟨by rfl, fun w h => by go_simp⟩) hHeld ?_
        try simp only [Act.put, List.getElem_toArray, List.getElem_cons_succ, List.getElem_cons_zero, List.setIfInBounds_toArray, List.set_cons_zero, List.set_cons_succ]
        refine wpAnyH_ready (rs := [14]) (by kernel_rfl) (by simp) (AllReadyH.cons rfl (fun K hK => ?_) AllReadyH.nil)
        go_simp
        refine hK.out _ _ hHeld (fun hHeld => ?_)
        clear hK K
        try simp only [Act.put, List.getElem_toArray, List.getElem_cons_succ, List.getElem_cons_zero, List.setIfInBounds_toArray, List.set_cons_zero, List.set_cons_succ]
        refine wpAnyH_take (i := 17) (v := .int .u64 (Z : Int)) rfl (by kernel_rfl) (by kernel_rfl) (by kernel_rfl) (fun _ _ _ h => h) (Or.inl ⟨by rfl, fun w h => by go_simp⟩) hHeld ?_
        try simp only [Act.put, List.getElem_toArray, List.getElem_cons_succ, List.getElem_cons_zero, List.setIfInBounds_toArray, List.set_cons_zero, List.set_cons_succ]
        refine wpAnyH_take (i := 18) (v := .pointer (some ⟨so, 0, none⟩)) rfl (by kernel_rfl) (by kernel_rfl) (by kernel_rfl) (fun _ _ _ h => h) (Or.inl ⟨by rfl, fun w h => by go_simp⟩) hHeld ?_
        try simp only [Act.put, List.getElem_toArray, List.getElem_cons_succ, List.getElem_cons_zero, List.setIfInBounds_toArray, List.set_cons_zero, List.set_cons_succ]
        refine wpAnyH_take (i := 19) (v := .pointer (some ⟨so, 1, none⟩)) rfl (by kernel_rfl) (by kernel_rfl) (by kernel_rfl) (fun _ _ _ h => h) (Or.inl ⟨by rfl, fun w h => by go_simp⟩) hHeld ?_
        try simp only [Act.put, List.getElem_toArray, List.getElem_cons_succ, List.getElem_cons_zero, List.setIfInBounds_toArray, List.set_cons_zero, List.set_cons_succ]
        refine wpAnyH_ready (rs := [20]) (by kernel_rfl) (by simp) (AllReadyH.cons rfl (fun K hK => ?_) AllReadyH.nil)
        go_simp
        have hkso : k ≠ so := by rw [← HSO2.out]; exact cr_ne HCV.out (HZV.out.so sv y).cr (by decide)
        have hms : Y.so sv y ≠ mb ∧ Y.so sv y ≠ kr := HSO.out sv y
        rw [HSO2.out] at hms
        refine hK.out _ _ (HF.out _ _ HQ1.out.1 (HRV.out.grown (grown_set V so 1 _) (fun he => by injection he with he; exact HNEK.out he.symm))) (fun hHeld => ?_)
        clear hK K s1 f1 hHeld
        try simp only [Act.put, List.getElem_toArray, List.getElem_cons_succ, List.getElem_cons_zero, List.setIfInBounds_toArray, List.set_cons_zero, List.set_cons_succ]
        have gW := grown_set V so 1 (.int .u64 (Z : Int))
        obtain ⟨W, hW⟩ : ∃ q, V.setCell ⟨so, 1, none⟩ (.int .u64 (Z : Int)) = q := ⟨_, rfl⟩
        have HQ2 := HQ1.out
        rw [hW] at gW HQ2 ⊢
        have kW := HKV.out.kept gW (fun he => by injection he with he; exact hms.1 he.symm) (fun he => by injection he with he; exact hms.2 he.symm)
        have cW := HCV.out.grown gW (fun he => by injection he with he; exact hkso he)
        have eW : Pi.setSo (peerSo TB c d left) sv y { (peerSo TB c d left).so sv y with may := Z } = peerSo TB c d (fun u t => left u t && !(u == sv && t == y)) := by
          rw [← HZ2.out, ← HX.out, ← HMAY.out]
          exact peerSo_step (by rw [HTB.out]; exact HSV.out) HL0.out HV0.out
        have zW : TZ W role g (peerSo TB c d (fun u t => left u t && !(u == sv && t == y))) Y := by rw [← eW]; exact HQ2.1
        have KW := Lib.hid kW
        have CW := Lib.hid cW
        have ZW := Lib.hid zW
        have SW := Lib.hid (HSTV.out.trans HQ2.2)
        clear gW HQ2 hW kW cW eW zW hkso hms hmn hmd
        refine wpAnyH_done (by kernel_rfl) ?_ _
        try simp only [Act.put, List.getElem_toArray, List.getElem_cons_succ, List.getElem_cons_zero]
        go_roundw
        case rel =>
          first | exact ⟨_, _, _, _, _, _, _, _, _, _, _, _, _, _, _, _, _, _, _, _, _, _, _, _, _, _, _, rfl, _, cnt', KW.out, ZW.out, SW.out, CW.out⟩ | exact ⟨_, _, _, _, _, _, _, _, _, _, _, _, _, _, _, _, _, _, _, _, _, _, _, _, _, _, _, ⟨_, cnt', KW.out, ZW.out, SW.out, CW.out⟩, rfl⟩ | exact ⟨_, _, _, _, _, _, _, _, _, _, _, _, _, _, _, _, _, _, _, _, _, _, _, _, _, _, _, _, cnt', KW.out, ZW.out, SW.out, CW.out, rfl⟩ | exact ⟨_, _, _, _, _, _, _, _, _, _, _, _, _, _, _, _, _, _, _, _, _, _, _, _, _, _, _, rfl, rfl, _, cnt', KW.out, ZW.out, SW.out, CW.out⟩ | show False
        case measure => rw [KW.out.left_eq, HK.out.left_eq]; exact HME.out
end
end Go.Proofs.Yteekafpkbdbadaa.Pi
