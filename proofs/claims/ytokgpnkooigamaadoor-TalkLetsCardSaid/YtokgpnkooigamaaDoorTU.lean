/- talk: asked. -/
import Derived.Test.YtokgpnkooigamaaDoorTT
set_option maxRecDepth 100000
set_option linter.unusedVariables false
namespace Go.Proofs.YtokgpnkooigamaaDoor
open Go.RowKit
theorem or_odd (n : Nat) (h : n < 9223372036854775808) : bits .or .u64 ((n : Int) * 2) 1 = (n : Int) * 2 + 1 := by
  have h1 := or_n (n * 2) 1 (by omega) (by omega)
  have h2 : n * 2 ||| 1 = n * 2 + 1 := by
    have h3 := Nat.shiftLeft_add_eq_or_of_lt (b := 1) (i := 1) (by omega) n
    rw [Nat.shiftLeft_eq] at h3
    exact h3.symm
  rw [h2] at h1
  rw [show ((n * 2 : Nat) : Int) = (n : Int) * 2 by omega] at h1
  rw [show ((n : Int) * 2 + 1) = ((n * 2 + 1 : Nat) : Int) by omega, ← h1]
  rfl
def nextS (S : SS) : Nat := S.their.length * 2 + if S.srv then 0 else 1
/-- a request of the other side -/
def askedS (S : SS) (m : MG) : SS × Nat :=
  if m.id ≠ nextS S then (S, 4) else if S.tl ≤ S.their.length then (S, 7) else if m.kind = 3 ∧ S.their.any (aliasB m.alias) = true then (S, 5) else ({ S with their := S.their ++ [⟨m, 1⟩] }, 0)
section
variable {w : World} {base g : Nat} {S : SS} {A : SL}
/-- a message in its box -/
theorem boxed {w : World} {m : MG} {s : ML} (h : SZ w base g S A) (hm : MO w base m s) : SZ (w.alloc (.cells (mgc m s).toArray 31)) base g S A ∧ MO (w.alloc (.cells (mgc m s).toArray 31)) base m s ∧ CR (w.alloc (.cells (mgc m s).toArray 31)) w.heap.size 31 (mgc m s) ∧ Below w.heap.size w (w.alloc (.cells (mgc m s).toArray 31)) :=
  ⟨h.bel (below_alloc w _), hm.bel (below_alloc w _) (Nat.le_refl _), CR.new w _ _, below_alloc w _⟩
set_option maxHeartbeats 4000000 in
theorem asked_id (h : SZ w base g S A) {m : MG} {s : ML} (hm : MO w base m s) (hl : S.their.length ≤ 1048576) (hB : base ≤ w.heap.size) (hid : m.id ≠ nextS S) :
    Calls Tryd.prog 32 #[.pointer (some ⟨g, 0, none⟩), .agg (mgc m s).toArray] w fun e w' => e = .returned (.int .u64 4) ∧ Below w.heap.size w w' := by
  obtain ⟨h1, hm1, hR, hb⟩ := boxed h hm
  obtain ⟨k, hk⟩ : ∃ k, w.heap.size = k := ⟨_, rfl⟩
  obtain ⟨w1, hw1⟩ : ∃ x', w.alloc (.cells (mgc m s).toArray 31) = x' := ⟨_, rfl⟩
  rw [hw1, hk] at hR
  rw [hw1] at hb h1 hm1
  have c0 : w1.cell? ⟨k, 0, none⟩ = some (.int .u64 (m.kind : Int)) := hR.at_ 0
  have c1 : w1.cell? ⟨k, 1, none⟩ = some (.int .u64 (m.id : Int)) := hR.at_ 1
  have c2 : w1.cell? ⟨k, 2, none⟩ = some (.int .u64 (m.alias : Int)) := hR.at_ 2
  have g0 : w1.cell? ⟨g, 0, none⟩ = some (.bool S.srv) := h1.row.at_ 0
  have g3 : w1.cell? ⟨g, 3, none⟩ = some (.slice A.th.a A.th.n A.th.c) := h1.row.at_ 3
  have g4 : w1.cell? ⟨g, 4, none⟩ = some (.int .u64 (S.tl : Int)) := h1.row.at_ 4
  have hn : S.their.length = A.th.n := h.th.n
  rw [hn] at hl
  have HB := Lib.hid hb
  have HR := Lib.hid hR
  have H1 := Lib.hid h1
  have HM1 := Lib.hid hm1
  have hsk1 := SK.bel (g := g) (A := A) hb
  have HSK1 := Lib.hid hsk1
  have HB1 := Lib.hid (Nat.le_trans hB hb.size)
  have hor := or_odd A.th.n (by omega)
  unfold nextS at hid
  rw [hn] at hid
  obtain ⟨sv, hsv⟩ : ∃ b, S.srv = b := ⟨_, rfl⟩
  rw [hsv] at g0 hid
  clear hsv
  cases sv with
  | true =>
    have q1 : ((m.id : Int) != (A.th.n : Int) * 2) = true := by simp at hid ⊢; omega
    unfold mgc u64 SA.v at hw1 ⊢
    clear hb hR h h1 hm hm1 hn hid hsk1 hB
    go_enter Tryd.func32, Tryd.ntmps32
    go_wp2
    go_ret
    exact ⟨rfl, HB.out⟩
  | false =>
    have q1 : ((m.id : Int) != (A.th.n : Int) * 2 + 1) = true := by simp at hid ⊢; omega
    unfold mgc u64 SA.v at hw1 ⊢
    clear hb hR h h1 hm hm1 hn hid hsk1 hB
    go_enter Tryd.func32, Tryd.ntmps32
    go_wp2
    go_ret
    exact ⟨rfl, HB.out⟩
set_option maxHeartbeats 4000000 in
theorem asked_many (h : SZ w base g S A) {m : MG} {s : ML} (hm : MO w base m s) (hl : S.their.length ≤ 1048576) (hB : base ≤ w.heap.size) (hid : m.id = nextS S) (ht : S.tl ≤ S.their.length) :
    Calls Tryd.prog 32 #[.pointer (some ⟨g, 0, none⟩), .agg (mgc m s).toArray] w fun e w' => e = .returned (.int .u64 7) ∧ Below w.heap.size w w' := by
  obtain ⟨h1, hm1, hR, hb⟩ := boxed h hm
  obtain ⟨k, hk⟩ : ∃ k, w.heap.size = k := ⟨_, rfl⟩
  obtain ⟨w1, hw1⟩ : ∃ x', w.alloc (.cells (mgc m s).toArray 31) = x' := ⟨_, rfl⟩
  rw [hw1, hk] at hR
  rw [hw1] at hb h1 hm1
  have c0 : w1.cell? ⟨k, 0, none⟩ = some (.int .u64 (m.kind : Int)) := hR.at_ 0
  have c1 : w1.cell? ⟨k, 1, none⟩ = some (.int .u64 (m.id : Int)) := hR.at_ 1
  have c2 : w1.cell? ⟨k, 2, none⟩ = some (.int .u64 (m.alias : Int)) := hR.at_ 2
  have g0 : w1.cell? ⟨g, 0, none⟩ = some (.bool S.srv) := h1.row.at_ 0
  have g3 : w1.cell? ⟨g, 3, none⟩ = some (.slice A.th.a A.th.n A.th.c) := h1.row.at_ 3
  have g4 : w1.cell? ⟨g, 4, none⟩ = some (.int .u64 (S.tl : Int)) := h1.row.at_ 4
  have hn : S.their.length = A.th.n := h.th.n
  rw [hn] at hl
  have HB := Lib.hid hb
  have HR := Lib.hid hR
  have H1 := Lib.hid h1
  have HM1 := Lib.hid hm1
  have hsk1 := SK.bel (g := g) (A := A) hb
  have HSK1 := Lib.hid hsk1
  have HB1 := Lib.hid (Nat.le_trans hB hb.size)
  have hor := or_odd A.th.n (by omega)
  unfold nextS at hid
  rw [hn] at hid ht
  have q2 : decide (S.tl ≤ A.th.n) = true := decide_eq_true ht
  obtain ⟨sv, hsv⟩ : ∃ b, S.srv = b := ⟨_, rfl⟩
  rw [hsv] at g0 hid
  clear hsv
  cases sv with
  | true =>
    have q1 : ((m.id : Int) != (A.th.n : Int) * 2) = false := by simp at hid ⊢; omega
    unfold mgc u64 SA.v at hw1 ⊢
    clear hb hR h h1 hm hm1 hn hid ht hsk1 hB
    go_enter Tryd.func32, Tryd.ntmps32
    go_wp2
    go_ret
    exact ⟨rfl, HB.out⟩
  | false =>
    have q1 : ((m.id : Int) != (A.th.n : Int) * 2 + 1) = false := by simp at hid ⊢; omega
    unfold mgc u64 SA.v at hw1 ⊢
    clear hb hR h h1 hm hm1 hn hid ht hsk1 hB
    go_enter Tryd.func32, Tryd.ntmps32
    go_wp2
    go_ret
    exact ⟨rfl, HB.out⟩
set_option maxHeartbeats 4000000 in
theorem asked_al (h : SZ w base g S A) {m : MG} {s : ML} (hm : MO w base m s) (hl : S.their.length ≤ 1048576) (hB : base ≤ w.heap.size) (hid : m.id = nextS S) (ht : ¬ S.tl ≤ S.their.length) (hk3 : m.kind = 3) (hal0 : S.their.any (aliasB m.alias) = true) :
    Calls Tryd.prog 32 #[.pointer (some ⟨g, 0, none⟩), .agg (mgc m s).toArray] w fun e w' => e = .returned (.int .u64 5) ∧ Below w.heap.size w w' := by
  obtain ⟨h1, hm1, hR, hb⟩ := boxed h hm
  obtain ⟨k, hk⟩ : ∃ k, w.heap.size = k := ⟨_, rfl⟩
  obtain ⟨w1, hw1⟩ : ∃ x', w.alloc (.cells (mgc m s).toArray 31) = x' := ⟨_, rfl⟩
  rw [hw1, hk] at hR
  rw [hw1] at hb h1 hm1
  have c0 : w1.cell? ⟨k, 0, none⟩ = some (.int .u64 (m.kind : Int)) := hR.at_ 0
  have c1 : w1.cell? ⟨k, 1, none⟩ = some (.int .u64 (m.id : Int)) := hR.at_ 1
  have c2 : w1.cell? ⟨k, 2, none⟩ = some (.int .u64 (m.alias : Int)) := hR.at_ 2
  have g0 : w1.cell? ⟨g, 0, none⟩ = some (.bool S.srv) := h1.row.at_ 0
  have g3 : w1.cell? ⟨g, 3, none⟩ = some (.slice A.th.a A.th.n A.th.c) := h1.row.at_ 3
  have g4 : w1.cell? ⟨g, 4, none⟩ = some (.int .u64 (S.tl : Int)) := h1.row.at_ 4
  have hn : S.their.length = A.th.n := h.th.n
  rw [hn] at hl
  have HB := Lib.hid hb
  have HR := Lib.hid hR
  have H1 := Lib.hid h1
  have HM1 := Lib.hid hm1
  have hsk1 := SK.bel (g := g) (A := A) hb
  have HSK1 := Lib.hid hsk1
  have HB1 := Lib.hid (Nat.le_trans hB hb.size)
  have hor := or_odd A.th.n (by omega)
  unfold nextS at hid
  rw [hn] at hid ht
  have q2 : decide (S.tl ≤ A.th.n) = false := decide_eq_false (by omega)
  have hal := fun (x : World) (b : Below w1.heap.size w1 x) => alias_any (w := x) (g := g) (o := 3) (h1.bel b).th (by omega) m.alias ((h1.bel b).row.at_ 3)
  obtain ⟨al, hal2⟩ : ∃ b, S.their.any (aliasB m.alias) = b := ⟨_, rfl⟩
  rw [hal2] at hal hal0
  have HAL := Lib.hid hal
  have HP := Lib.hid (fun (x : World) (b : Below w1.heap.size w1 x) => (⟨(hR.bel b).at_ 0, (hR.bel b).at_ 2, (h1.bel b).row.at_ 3⟩ : x.cell? ⟨k, 0, none⟩ = some (.int .u64 (m.kind : Int)) ∧ x.cell? ⟨k, 2, none⟩ = some (.int .u64 (m.alias : Int)) ∧ x.cell? ⟨g, 3, none⟩ = some (.slice A.th.a A.th.n A.th.c)))
  subst hal0
  have qk : ((m.kind : Int) == 3) = true := by simp; omega
  obtain ⟨sv, hsv⟩ : ∃ b, S.srv = b := ⟨_, rfl⟩
  rw [hsv] at g0 hid
  clear hsv
  cases sv with
  | true =>
    have q1 : ((m.id : Int) != (A.th.n : Int) * 2) = false := by simp at hid ⊢; omega
    unfold mgc u64 SA.v at hw1 ⊢
    clear hb hR h h1 hm hm1 hn hid ht hk3 hal hal2 hsk1 hB
    go_enter Tryd.func32, Tryd.ntmps32
    go_upto_region 9 with (fail)
    clear c1 g0 g4 hor q1 q2 c0 c2 g3
    obtain ⟨V, hV⟩ : ∃ V, w1.drew = V := ⟨_, rfl⟩
    have bV : Below w1.heap.size w1 V := by rw [← hV]; exact (Below.refl _ _).drew
    have HBV := Lib.hid bV
    refine wp_region_held_drew (S := fun x => x.cell? ⟨k, 0, none⟩ = some (.int .u64 (m.kind : Int)) ∧ x.cell? ⟨k, 2, none⟩ = some (.int .u64 (m.alias : Int)) ∧ x.cell? ⟨g, 3, none⟩ = some (.slice A.th.a A.th.n A.th.c)) (by kernel_rfl) (HP.out w1 (Below.refl _ _)) (fun hHeld => ?_)
    rw [hV] at hHeld ⊢
    clear bV hV
    refine wpAnyH_take (i := 0) (v := .pointer (some ⟨k, 0, none⟩)) rfl (by kernel_rfl) (by kernel_rfl) (by kernel_rfl) (fun _ _ _ h => h) (Or.inl ⟨by rfl, fun w h => by go_simp⟩) hHeld ?_
    try simp only [Act.put, List.getElem_toArray, List.getElem_cons_zero, List.setIfInBounds_toArray, List.set_cons_zero, List.set_cons_succ]
    refine wpAnyH_take (i := 1) (v := .int .u64 (m.kind : Int)) rfl (by kernel_rfl) (by kernel_rfl) (by kernel_rfl) (fun _ _ _ h => h) (Or.inl ⟨by rfl, fun w h => by go_simp⟩) hHeld ?_
    try simp only [Act.put, List.getElem_toArray, List.getElem_cons_succ, List.getElem_cons_zero, List.setIfInBounds_toArray, List.set_cons_zero, List.set_cons_succ]
    refine wpAnyH_take (i := 2) (v := .bool true) rfl (by kernel_rfl) (by kernel_rfl) (by kernel_rfl) (fun _ _ _ h => h) (Or.inl ⟨by rfl, fun w h => by go_simp⟩) hHeld ?_
    try simp only [Act.put, List.getElem_toArray, List.getElem_cons_succ, List.getElem_cons_zero, List.setIfInBounds_toArray, List.set_cons_zero, List.set_cons_succ]
    refine wpAnyH_take (i := 3) (v := .bool true) rfl (by kernel_rfl) (by kernel_rfl) (by kernel_rfl) (fun _ _ _ h => h) (Or.inl ⟨by rfl, fun w h => by go_simp⟩) hHeld ?_
    try simp only [Act.put, List.getElem_toArray, List.getElem_cons_succ, List.getElem_cons_zero, List.setIfInBounds_toArray, List.set_cons_zero, List.set_cons_succ]
    refine wpAnyH_take (i := 4) (v := .pointer (some ⟨g, 0, none⟩)) rfl (by kernel_rfl) (by kernel_rfl) (by kernel_rfl) (fun _ _ _ h => h) (Or.inl ⟨by rfl, fun w h => by go_simp⟩) hHeld ?_
    try simp only [Act.put, List.getElem_toArray, List.getElem_cons_succ, List.getElem_cons_zero, List.setIfInBounds_toArray, List.set_cons_zero, List.set_cons_succ]
    refine wpAnyH_take (i := 5) (v := .pointer (some ⟨g, 0, none⟩)) rfl (by kernel_rfl) (by kernel_rfl) (by kernel_rfl) (fun _ _ _ h => h) (Or.inl ⟨by rfl, fun w h => by go_simp⟩) hHeld ?_
    try simp only [Act.put, List.getElem_toArray, List.getElem_cons_succ, List.getElem_cons_zero, List.setIfInBounds_toArray, List.set_cons_zero, List.set_cons_succ]
    refine wpAnyH_take (i := 6) (v := .pointer (some ⟨g, 3, none⟩)) rfl (by kernel_rfl) (by kernel_rfl) (by kernel_rfl) (fun _ _ _ h => h) (Or.inl ⟨by rfl, fun w h => by go_simp⟩) hHeld ?_
    try simp only [Act.put, List.getElem_toArray, List.getElem_cons_succ, List.getElem_cons_zero, List.setIfInBounds_toArray, List.set_cons_zero, List.set_cons_succ]
    refine wpAnyH_take (i := 7) (v := .pointer (some ⟨k, 2, none⟩)) rfl (by kernel_rfl) (by kernel_rfl) (by kernel_rfl) (fun _ _ _ h => h) (Or.inl ⟨by rfl, fun w h => by go_simp⟩) hHeld ?_
    try simp only [Act.put, List.getElem_toArray, List.getElem_cons_succ, List.getElem_cons_zero, List.setIfInBounds_toArray, List.set_cons_zero, List.set_cons_succ]
    refine wpAnyH_take (i := 8) (v := .int .u64 (m.alias : Int)) rfl (by kernel_rfl) (by kernel_rfl) (by kernel_rfl) (fun _ _ _ h => h) (Or.inl ⟨by rfl, fun w h => by go_simp⟩) hHeld ?_
    try simp only [Act.put, List.getElem_toArray, List.getElem_cons_succ, List.getElem_cons_zero, List.setIfInBounds_toArray, List.set_cons_zero, List.set_cons_succ]
    refine wpAnyH_ready (rs := [9]) (by kernel_rfl) (by simp) (AllReadyH.cons rfl (fun K hK => ?_) AllReadyH.nil)
    go_simp
    go_at_call 39
    refine (HAL.out V HBV.out).mono ?_
    rintro y w2 ⟨rfl, B2⟩
    have HB2 := Lib.hid (btr HBV.out B2)
    refine hK.out _ _ (HP.out w2 HB2.out) (fun hHeld => ?_)
    clear hK K B2
    try simp only [Act.put, List.getElem_toArray, List.getElem_cons_succ, List.getElem_cons_zero, List.setIfInBounds_toArray, List.set_cons_zero, List.set_cons_succ]
    refine wpAnyH_take (i := 10) (v := .bool true) rfl (by kernel_rfl) (by kernel_rfl) (by kernel_rfl) (fun _ _ _ h => h) (Or.inl ⟨by rfl, fun w h => by go_simp⟩) hHeld ?_
    try simp only [Act.put, List.getElem_toArray, List.getElem_cons_succ, List.getElem_cons_zero, List.setIfInBounds_toArray, List.set_cons_zero, List.set_cons_succ]
    refine wpAnyH_take (i := 11) (v := .bool true) rfl (by kernel_rfl) (by kernel_rfl) (by kernel_rfl) (fun _ _ _ h => h) (Or.inl ⟨by rfl, fun w h => by go_simp⟩) hHeld ?_
    try simp only [Act.put, List.getElem_toArray, List.getElem_cons_succ, List.getElem_cons_zero, List.setIfInBounds_toArray, List.set_cons_zero, List.set_cons_succ]
    refine wpAnyH_done (by kernel_rfl) ?_ _
    try simp only [Act.put, List.getElem_toArray, List.getElem_cons_succ, List.getElem_cons_zero]
    go_wp2
    go_ret
    exact ⟨rfl, btr HB.out HB2.out⟩
  | false =>
    have q1 : ((m.id : Int) != (A.th.n : Int) * 2 + 1) = false := by simp at hid ⊢; omega
    unfold mgc u64 SA.v at hw1 ⊢
    clear hb hR h h1 hm hm1 hn hid ht hk3 hal hal2 hsk1 hB
    go_enter Tryd.func32, Tryd.ntmps32
    go_upto_region 9 with (fail)
    clear c1 g0 g4 hor q1 q2 c0 c2 g3
    obtain ⟨V, hV⟩ : ∃ V, w1.drew = V := ⟨_, rfl⟩
    have bV : Below w1.heap.size w1 V := by rw [← hV]; exact (Below.refl _ _).drew
    have HBV := Lib.hid bV
    refine wp_region_held_drew (S := fun x => x.cell? ⟨k, 0, none⟩ = some (.int .u64 (m.kind : Int)) ∧ x.cell? ⟨k, 2, none⟩ = some (.int .u64 (m.alias : Int)) ∧ x.cell? ⟨g, 3, none⟩ = some (.slice A.th.a A.th.n A.th.c)) (by kernel_rfl) (HP.out w1 (Below.refl _ _)) (fun hHeld => ?_)
    rw [hV] at hHeld ⊢
    clear bV hV
    refine wpAnyH_take (i := 0) (v := .pointer (some ⟨k, 0, none⟩)) rfl (by kernel_rfl) (by kernel_rfl) (by kernel_rfl) (fun _ _ _ h => h) (Or.inl ⟨by rfl, fun w h => by go_simp⟩) hHeld ?_
    try simp only [Act.put, List.getElem_toArray, List.getElem_cons_zero, List.setIfInBounds_toArray, List.set_cons_zero, List.set_cons_succ]
    refine wpAnyH_take (i := 1) (v := .int .u64 (m.kind : Int)) rfl (by kernel_rfl) (by kernel_rfl) (by kernel_rfl) (fun _ _ _ h => h) (Or.inl ⟨by rfl, fun w h => by go_simp⟩) hHeld ?_
    try simp only [Act.put, List.getElem_toArray, List.getElem_cons_succ, List.getElem_cons_zero, List.setIfInBounds_toArray, List.set_cons_zero, List.set_cons_succ]
    refine wpAnyH_take (i := 2) (v := .bool true) rfl (by kernel_rfl) (by kernel_rfl) (by kernel_rfl) (fun _ _ _ h => h) (Or.inl ⟨by rfl, fun w h => by go_simp⟩) hHeld ?_
    try simp only [Act.put, List.getElem_toArray, List.getElem_cons_succ, List.getElem_cons_zero, List.setIfInBounds_toArray, List.set_cons_zero, List.set_cons_succ]
    refine wpAnyH_take (i := 3) (v := .bool true) rfl (by kernel_rfl) (by kernel_rfl) (by kernel_rfl) (fun _ _ _ h => h) (Or.inl ⟨by rfl, fun w h => by go_simp⟩) hHeld ?_
    try simp only [Act.put, List.getElem_toArray, List.getElem_cons_succ, List.getElem_cons_zero, List.setIfInBounds_toArray, List.set_cons_zero, List.set_cons_succ]
    refine wpAnyH_take (i := 4) (v := .pointer (some ⟨g, 0, none⟩)) rfl (by kernel_rfl) (by kernel_rfl) (by kernel_rfl) (fun _ _ _ h => h) (Or.inl ⟨by rfl, fun w h => by go_simp⟩) hHeld ?_
    try simp only [Act.put, List.getElem_toArray, List.getElem_cons_succ, List.getElem_cons_zero, List.setIfInBounds_toArray, List.set_cons_zero, List.set_cons_succ]
    refine wpAnyH_take (i := 5) (v := .pointer (some ⟨g, 0, none⟩)) rfl (by kernel_rfl) (by kernel_rfl) (by kernel_rfl) (fun _ _ _ h => h) (Or.inl ⟨by rfl, fun w h => by go_simp⟩) hHeld ?_
    try simp only [Act.put, List.getElem_toArray, List.getElem_cons_succ, List.getElem_cons_zero, List.setIfInBounds_toArray, List.set_cons_zero, List.set_cons_succ]
    refine wpAnyH_take (i := 6) (v := .pointer (some ⟨g, 3, none⟩)) rfl (by kernel_rfl) (by kernel_rfl) (by kernel_rfl) (fun _ _ _ h => h) (Or.inl ⟨by rfl, fun w h => by go_simp⟩) hHeld ?_
    try simp only [Act.put, List.getElem_toArray, List.getElem_cons_succ, List.getElem_cons_zero, List.setIfInBounds_toArray, List.set_cons_zero, List.set_cons_succ]
    refine wpAnyH_take (i := 7) (v := .pointer (some ⟨k, 2, none⟩)) rfl (by kernel_rfl) (by kernel_rfl) (by kernel_rfl) (fun _ _ _ h => h) (Or.inl ⟨by rfl, fun w h => by go_simp⟩) hHeld ?_
    try simp only [Act.put, List.getElem_toArray, List.getElem_cons_succ, List.getElem_cons_zero, List.setIfInBounds_toArray, List.set_cons_zero, List.set_cons_succ]
    refine wpAnyH_take (i := 8) (v := .int .u64 (m.alias : Int)) rfl (by kernel_rfl) (by kernel_rfl) (by kernel_rfl) (fun _ _ _ h => h) (Or.inl ⟨by rfl, fun w h => by go_simp⟩) hHeld ?_
    try simp only [Act.put, List.getElem_toArray, List.getElem_cons_succ, List.getElem_cons_zero, List.setIfInBounds_toArray, List.set_cons_zero, List.set_cons_succ]
    refine wpAnyH_ready (rs := [9]) (by kernel_rfl) (by simp) (AllReadyH.cons rfl (fun K hK => ?_) AllReadyH.nil)
    go_simp
    go_at_call 39
    refine (HAL.out V HBV.out).mono ?_
    rintro y w2 ⟨rfl, B2⟩
    have HB2 := Lib.hid (btr HBV.out B2)
    refine hK.out _ _ (HP.out w2 HB2.out) (fun hHeld => ?_)
    clear hK K B2
    try simp only [Act.put, List.getElem_toArray, List.getElem_cons_succ, List.getElem_cons_zero, List.setIfInBounds_toArray, List.set_cons_zero, List.set_cons_succ]
    refine wpAnyH_take (i := 10) (v := .bool true) rfl (by kernel_rfl) (by kernel_rfl) (by kernel_rfl) (fun _ _ _ h => h) (Or.inl ⟨by rfl, fun w h => by go_simp⟩) hHeld ?_
    try simp only [Act.put, List.getElem_toArray, List.getElem_cons_succ, List.getElem_cons_zero, List.setIfInBounds_toArray, List.set_cons_zero, List.set_cons_succ]
    refine wpAnyH_take (i := 11) (v := .bool true) rfl (by kernel_rfl) (by kernel_rfl) (by kernel_rfl) (fun _ _ _ h => h) (Or.inl ⟨by rfl, fun w h => by go_simp⟩) hHeld ?_
    try simp only [Act.put, List.getElem_toArray, List.getElem_cons_succ, List.getElem_cons_zero, List.setIfInBounds_toArray, List.set_cons_zero, List.set_cons_succ]
    refine wpAnyH_done (by kernel_rfl) ?_ _
    try simp only [Act.put, List.getElem_toArray, List.getElem_cons_succ, List.getElem_cons_zero]
    go_wp2
    go_ret
    exact ⟨rfl, btr HB.out HB2.out⟩
set_option maxHeartbeats 4000000 in
theorem asked_n3 (h : SZ w base g S A) {m : MG} {s : ML} (hm : MO w base m s) (hl : S.their.length ≤ 1048576) (hB : base ≤ w.heap.size) (hid : m.id = nextS S) (ht : ¬ S.tl ≤ S.their.length) (hk3 : m.kind ≠ 3) :
    Calls Tryd.prog 32 #[.pointer (some ⟨g, 0, none⟩), .agg (mgc m s).toArray] w fun e w' => e = .returned (.int .u64 0) ∧ ∃ A', SZ w' base g { S with their := S.their ++ [⟨m, 1⟩] } A' ∧ SK w g A w' A' := by
  obtain ⟨h1, hm1, hR, hb⟩ := boxed h hm
  obtain ⟨k, hk⟩ : ∃ k, w.heap.size = k := ⟨_, rfl⟩
  obtain ⟨w1, hw1⟩ : ∃ x', w.alloc (.cells (mgc m s).toArray 31) = x' := ⟨_, rfl⟩
  rw [hw1, hk] at hR
  rw [hw1] at hb h1 hm1
  have c0 : w1.cell? ⟨k, 0, none⟩ = some (.int .u64 (m.kind : Int)) := hR.at_ 0
  have c1 : w1.cell? ⟨k, 1, none⟩ = some (.int .u64 (m.id : Int)) := hR.at_ 1
  have c2 : w1.cell? ⟨k, 2, none⟩ = some (.int .u64 (m.alias : Int)) := hR.at_ 2
  have g0 : w1.cell? ⟨g, 0, none⟩ = some (.bool S.srv) := h1.row.at_ 0
  have g3 : w1.cell? ⟨g, 3, none⟩ = some (.slice A.th.a A.th.n A.th.c) := h1.row.at_ 3
  have g4 : w1.cell? ⟨g, 4, none⟩ = some (.int .u64 (S.tl : Int)) := h1.row.at_ 4
  have hn : S.their.length = A.th.n := h.th.n
  rw [hn] at hl
  have HB := Lib.hid hb
  have HR := Lib.hid hR
  have H1 := Lib.hid h1
  have HM1 := Lib.hid hm1
  have hsk1 := SK.bel (g := g) (A := A) hb
  have HSK1 := Lib.hid hsk1
  have HB1 := Lib.hid (Nat.le_trans hB hb.size)
  have hor := or_odd A.th.n (by omega)
  unfold nextS at hid
  rw [hn] at hid ht
  have q2 : decide (S.tl ≤ A.th.n) = false := decide_eq_false (by omega)
  have hal := fun (x : World) (b : Below w1.heap.size w1 x) => alias_any (w := x) (g := g) (o := 3) (h1.bel b).th (by omega) m.alias ((h1.bel b).row.at_ 3)
  obtain ⟨al, hal2⟩ : ∃ b, S.their.any (aliasB m.alias) = b := ⟨_, rfl⟩
  rw [hal2] at hal
  have HAL := Lib.hid hal
  have HP := Lib.hid (fun (x : World) (b : Below w1.heap.size w1 x) => (⟨(hR.bel b).at_ 0, (hR.bel b).at_ 2, (h1.bel b).row.at_ 3⟩ : x.cell? ⟨k, 0, none⟩ = some (.int .u64 (m.kind : Int)) ∧ x.cell? ⟨k, 2, none⟩ = some (.int .u64 (m.alias : Int)) ∧ x.cell? ⟨g, 3, none⟩ = some (.slice A.th.a A.th.n A.th.c)))
  have qk : ((m.kind : Int) == 3) = false := by simp; omega
  obtain ⟨sv, hsv⟩ : ∃ b, S.srv = b := ⟨_, rfl⟩
  rw [hsv] at g0 hid
  clear hsv
  cases sv with
  | true =>
    have q1 : ((m.id : Int) != (A.th.n : Int) * 2) = false := by simp at hid ⊢; omega
    unfold mgc u64 SA.v at hw1 ⊢
    clear hb hR h h1 hm hm1 hn hid ht hk3 hal hal2 hsk1 hB
    go_enter Tryd.func32, Tryd.ntmps32
    go_upto_region 9 with (fail)
    clear c1 g0 g4 hor q1 q2 c0 c2 g3
    obtain ⟨V, hV⟩ : ∃ V, w1.drew = V := ⟨_, rfl⟩
    have bV : Below w1.heap.size w1 V := by rw [← hV]; exact (Below.refl _ _).drew
    have HBV := Lib.hid bV
    refine wp_region_held_drew (S := fun x => x.cell? ⟨k, 0, none⟩ = some (.int .u64 (m.kind : Int)) ∧ x.cell? ⟨k, 2, none⟩ = some (.int .u64 (m.alias : Int)) ∧ x.cell? ⟨g, 3, none⟩ = some (.slice A.th.a A.th.n A.th.c)) (by kernel_rfl) (HP.out w1 (Below.refl _ _)) (fun hHeld => ?_)
    rw [hV] at hHeld ⊢
    clear bV hV
    refine wpAnyH_take (i := 0) (v := .pointer (some ⟨k, 0, none⟩)) rfl (by kernel_rfl) (by kernel_rfl) (by kernel_rfl) (fun _ _ _ h => h) (Or.inl ⟨by rfl, fun w h => by go_simp⟩) hHeld ?_
    try simp only [Act.put, List.getElem_toArray, List.getElem_cons_zero, List.setIfInBounds_toArray, List.set_cons_zero, List.set_cons_succ]
    refine wpAnyH_take (i := 1) (v := .int .u64 (m.kind : Int)) rfl (by kernel_rfl) (by kernel_rfl) (by kernel_rfl) (fun _ _ _ h => h) (Or.inl ⟨by rfl, fun w h => by go_simp⟩) hHeld ?_
    try simp only [Act.put, List.getElem_toArray, List.getElem_cons_succ, List.getElem_cons_zero, List.setIfInBounds_toArray, List.set_cons_zero, List.set_cons_succ]
    refine wpAnyH_take (i := 2) (v := .bool false) rfl (by kernel_rfl) (by kernel_rfl) (by kernel_rfl) (fun _ _ _ h => h) (Or.inl ⟨by rfl, fun w h => by go_simp⟩) hHeld ?_
    try simp only [Act.put, List.getElem_toArray, List.getElem_cons_succ, List.getElem_cons_zero, List.setIfInBounds_toArray, List.set_cons_zero, List.set_cons_succ]
    refine wpAnyH_take (i := 3) (v := .bool false) rfl (by kernel_rfl) (by kernel_rfl) (by kernel_rfl) (fun _ _ _ h => h) (Or.inl ⟨by rfl, fun w h => by go_simp⟩) hHeld ?_
    try simp only [Act.put, List.getElem_toArray, List.getElem_cons_succ, List.getElem_cons_zero, List.setIfInBounds_toArray, List.set_cons_zero, List.set_cons_succ]
    refine wpAnyH_take (i := 4) (v := undef) rfl (by kernel_rfl) (by kernel_rfl) (by kernel_rfl) (fun _ _ _ h => h) (Or.inr ⟨by rfl, rfl⟩) hHeld ?_
    try simp only [Act.put, List.getElem_toArray, List.getElem_cons_succ, List.getElem_cons_zero, List.setIfInBounds_toArray, List.set_cons_zero, List.set_cons_succ]
    refine wpAnyH_take (i := 5) (v := undef) rfl (by kernel_rfl) (by kernel_rfl) (by kernel_rfl) (fun _ _ _ h => h) (Or.inr ⟨by rfl, rfl⟩) hHeld ?_
    try simp only [Act.put, List.getElem_toArray, List.getElem_cons_succ, List.getElem_cons_zero, List.setIfInBounds_toArray, List.set_cons_zero, List.set_cons_succ]
    refine wpAnyH_take (i := 6) (v := undef) rfl (by kernel_rfl) (by kernel_rfl) (by kernel_rfl) (fun _ _ _ h => h) (Or.inr ⟨by rfl, rfl⟩) hHeld ?_
    try simp only [Act.put, List.getElem_toArray, List.getElem_cons_succ, List.getElem_cons_zero, List.setIfInBounds_toArray, List.set_cons_zero, List.set_cons_succ]
    refine wpAnyH_take (i := 7) (v := undef) rfl (by kernel_rfl) (by kernel_rfl) (by kernel_rfl) (fun _ _ _ h => h) (Or.inr ⟨by rfl, rfl⟩) hHeld ?_
    try simp only [Act.put, List.getElem_toArray, List.getElem_cons_succ, List.getElem_cons_zero, List.setIfInBounds_toArray, List.set_cons_zero, List.set_cons_succ]
    refine wpAnyH_take (i := 8) (v := undef) rfl (by kernel_rfl) (by kernel_rfl) (by kernel_rfl) (fun _ _ _ h => h) (Or.inr ⟨by rfl, rfl⟩) hHeld ?_
    try simp only [Act.put, List.getElem_toArray, List.getElem_cons_succ, List.getElem_cons_zero, List.setIfInBounds_toArray, List.set_cons_zero, List.set_cons_succ]
    refine wpAnyH_take (i := 9) (v := undef) rfl (by kernel_rfl) (by kernel_rfl) (by kernel_rfl) (fun _ _ _ h => h) (Or.inr ⟨by rfl, rfl⟩) hHeld ?_
    try simp only [Act.put, List.getElem_toArray, List.getElem_cons_succ, List.getElem_cons_zero, List.setIfInBounds_toArray, List.set_cons_zero, List.set_cons_succ]
    refine wpAnyH_take (i := 10) (v := .bool false) rfl (by kernel_rfl) (by kernel_rfl) (by kernel_rfl) (fun _ _ _ h => h) (Or.inl ⟨by rfl, fun w h => by go_simp⟩) hHeld ?_
    try simp only [Act.put, List.getElem_toArray, List.getElem_cons_succ, List.getElem_cons_zero, List.setIfInBounds_toArray, List.set_cons_zero, List.set_cons_succ]
    refine wpAnyH_take (i := 11) (v := .bool false) rfl (by kernel_rfl) (by kernel_rfl) (by kernel_rfl) (fun _ _ _ h => h) (Or.inl ⟨by rfl, fun w h => by go_simp⟩) hHeld ?_
    try simp only [Act.put, List.getElem_toArray, List.getElem_cons_succ, List.getElem_cons_zero, List.setIfInBounds_toArray, List.set_cons_zero, List.set_cons_succ]
    have HB2 := HBV
    obtain ⟨w2, hw2⟩ : ∃ x, V = x := ⟨_, rfl⟩
    rw [hw2] at HB2 ⊢
    clear hw2
    refine wpAnyH_done (by kernel_rfl) ?_ _
    try simp only [Act.put, List.getElem_toArray, List.getElem_cons_succ, List.getElem_cons_zero]
    go_upto_region 11 with (fail)
    have hz2 := H1.out.bel HB2.out
    have hr2 := HR.out.bel HB2.out
    have hm2 := HM1.out.bel HB2.out (Nat.le_refl _)
    have hsk2 := HSK1.out.trans (SK.bel (g := g) (A := A) HB2.out)
    obtain ⟨U, hU⟩ : ∃ U, w2.drew = U := ⟨_, rfl⟩
    have hzU : SZ U base g S A := by rw [← hU]; exact hz2.drew
    have hskU : SK w g A U A := by rw [← hU]; exact hsk2.trans (SK.bel (Below.refl _ _).drew)
    have hmU : MO U base m s := by rw [← hU]; exact hm2.bel (Below.refl w2.heap.size w2).drew (Nat.le_refl _)
    have HZU := Lib.hid hzU
    have HSU := Lib.hid hskU
    have HMU := Lib.hid hmU
    have h52 : w2.cell? ⟨g, 3, none⟩ = some (.slice A.th.a A.th.n A.th.c) ∧ w2.rangeAt k 0 [.int .u64 (m.kind : Int), .int .u64 (m.id : Int), .int .u64 (m.alias : Int), .slice s.nm.a s.nm.n s.nm.c, .int .u8 (m.prio : Int), .int .u8 (m.ord : Int), .int .u64 (m.sg : Int), .int .u64 (m.so : Int), .int .u64 (m.eg : Int), .int .u64 (m.eo : Int), .bool m.some, .int .u64 (m.code : Int), .slice s.rs.a s.rs.n s.rs.c, .int .u64 (m.n : Int), .int .u64 (m.ver : Int), .slice s.vs.a s.vs.n s.vs.c] := ⟨hz2.row.at_ 3, hr2.rng⟩
    have H52 := Lib.hid h52
    have HBU := Lib.hid (Nat.le_trans (Nat.le_trans HB1.out HB2.out.size) (show w2.heap.size ≤ U.heap.size by rw [← hU]; exact Nat.le_refl _))
    have hkl : CR U k 31 (mgc m s) := by rw [← hU]; exact hr2
    have HKL := Lib.hid hkl
    clear hz2 hr2 hm2 hsk2 hzU hskU hmU h52 hkl HB2 HP HAL H1 HR HM1 HSK1 HB1 HBV
    refine wp_region_U 13 (S := fun x => x.cell? ⟨g, 3, none⟩ = some (.slice A.th.a A.th.n A.th.c) ∧ x.rangeAt k 0 [.int .u64 (m.kind : Int), .int .u64 (m.id : Int), .int .u64 (m.alias : Int), .slice s.nm.a s.nm.n s.nm.c, .int .u8 (m.prio : Int), .int .u8 (m.ord : Int), .int .u64 (m.sg : Int), .int .u64 (m.so : Int), .int .u64 (m.eg : Int), .int .u64 (m.eo : Int), .bool m.some, .int .u64 (m.code : Int), .slice s.rs.a s.rs.n s.rs.c, .int .u64 (m.n : Int), .int .u64 (m.ver : Int), .slice s.vs.a s.vs.n s.vs.c]) (by kernel_rfl) H52.out (fun hHeld => ?_)
    rw [hU] at hHeld ⊢
    clear H52 hU
    refine wpAnyU_take (i := 0) (v := .pointer (some ⟨g, 0, none⟩)) rfl (by kernel_rfl) (by kernel_rfl) (by kernel_rfl) (by kernel_rfl) rfl (by kernel_rfl) (fun _ _ _ h => h) (Or.inl ⟨by rfl, fun w h => by go_simp⟩) hHeld ?_
    try simp only [Act.put, List.getElem_toArray, List.getElem_cons_zero, List.setIfInBounds_toArray, List.set_cons_zero, List.set_cons_succ]
    refine wpAnyU_take (i := 1) (v := .pointer (some ⟨g, 0, none⟩)) rfl (by kernel_rfl) (by kernel_rfl) (by kernel_rfl) (by kernel_rfl) rfl (by kernel_rfl) (fun _ _ _ h => h) (Or.inl ⟨by rfl, fun w h => by go_simp⟩) hHeld ?_
    try simp only [Act.put, List.getElem_toArray, List.getElem_cons_succ, List.getElem_cons_zero, List.setIfInBounds_toArray, List.set_cons_zero, List.set_cons_succ]
    refine wpAnyU_take (i := 2) (v := .pointer (some ⟨g, 0, none⟩)) rfl (by kernel_rfl) (by kernel_rfl) (by kernel_rfl) (by kernel_rfl) rfl (by kernel_rfl) (fun _ _ _ h => h) (Or.inl ⟨by rfl, fun w h => by go_simp⟩) hHeld ?_
    try simp only [Act.put, List.getElem_toArray, List.getElem_cons_succ, List.getElem_cons_zero, List.setIfInBounds_toArray, List.set_cons_zero, List.set_cons_succ]
    refine wpAnyU_take (i := 3) (v := .pointer (some ⟨g, 3, none⟩)) rfl (by kernel_rfl) (by kernel_rfl) (by kernel_rfl) (by kernel_rfl) rfl (by kernel_rfl) (fun _ _ _ h => h) (Or.inl ⟨by rfl, fun w h => by go_simp⟩) hHeld ?_
    try simp only [Act.put, List.getElem_toArray, List.getElem_cons_succ, List.getElem_cons_zero, List.setIfInBounds_toArray, List.set_cons_zero, List.set_cons_succ]
    refine wpAnyU_take (i := 4) (v := .pointer (some ⟨g, 3, none⟩)) rfl (by kernel_rfl) (by kernel_rfl) (by kernel_rfl) (by kernel_rfl) rfl (by kernel_rfl) (fun _ _ _ h => h) (Or.inl ⟨by rfl, fun w h => by go_simp⟩) hHeld ?_
    try simp only [Act.put, List.getElem_toArray, List.getElem_cons_succ, List.getElem_cons_zero, List.setIfInBounds_toArray, List.set_cons_zero, List.set_cons_succ]
    refine wpAnyU_take (i := 5) (v := .slice A.th.a A.th.n A.th.c) rfl (by kernel_rfl) (by kernel_rfl) (by kernel_rfl) (by kernel_rfl) rfl (by kernel_rfl) (fun _ _ _ h => h) (Or.inl ⟨by rfl, fun w h => by go_simp⟩) hHeld ?_
    try simp only [Act.put, List.getElem_toArray, List.getElem_cons_succ, List.getElem_cons_zero, List.setIfInBounds_toArray, List.set_cons_zero, List.set_cons_succ]
    refine wpAnyU_take (i := 6) rfl (by kernel_rfl) (by kernel_rfl) (by kernel_rfl) (by kernel_rfl) rfl (by kernel_rfl) (fun _ _ _ h => h) (yieldsIf_load_mid (by rfl) _ _ rfl _ _ rfl _ _ (fun w h => h.2) Tryd.underlying31 rfl iMsg) hHeld ?_
    try simp only [Act.put, List.getElem_toArray, List.getElem_cons_succ, List.getElem_cons_zero, List.setIfInBounds_toArray, List.set_cons_zero, List.set_cons_succ]
    refine wpAnyU_take (i := 7) (v := .agg #[.int .u64 (m.kind : Int), .int .u64 (m.id : Int), .int .u64 (m.alias : Int), .slice s.nm.a s.nm.n s.nm.c, .int .u8 (m.prio : Int), .int .u8 (m.ord : Int), .int .u64 (m.sg : Int), .int .u64 (m.so : Int), .int .u64 (m.eg : Int), .int .u64 (m.eo : Int), .bool m.some, .int .u64 (m.code : Int), .slice s.rs.a s.rs.n s.rs.c, .int .u64 (m.n : Int), .int .u64 (m.ver : Int), .slice s.vs.a s.vs.n s.vs.c, .int .i64 1]) rfl (by kernel_rfl) (by kernel_rfl) (by kernel_rfl) (by kernel_rfl) rfl (by kernel_rfl) (fun _ _ _ h => h) (Or.inl ⟨by rfl, fun w h => by go_simp⟩) hHeld ?_
    try simp only [Act.put, List.getElem_toArray, List.getElem_cons_succ, List.getElem_cons_zero, List.setIfInBounds_toArray, List.set_cons_zero, List.set_cons_succ]
    refine wpAnyU_ready (rs := [8]) (by kernel_rfl) (by simp) (AllReadyU.cons rfl (fun K hK => ?_) AllReadyU.nil)
    go_simp
    have hrs := (OW_made U 0 49 17 (akc ⟨m, 1⟩ s).toArray 1 (Nat.zero_le _) rfl (by unfold maxLen; omega) (by
      intro v hv
      simp only [akc, List.mem_append, List.mem_singleton] at hv
      rcases hv with hv | rfl
      · exact mgc_one m s v hv
      · rfl)).rs
    have hbU := below_alloc U (.cells (akc ⟨m, 1⟩ s).toArray 49)
    have hz3 := HZU.out.bel hbU
    have hm3 := HMU.out.bel hbU (Nat.le_refl _)
    have hs3 := HSU.out.trans (SK.bel (g := g) (A := A) hbU)
    have hB3 : base ≤ (U.alloc (.cells (akc ⟨m, 1⟩ s).toArray 49)).heap.size := Nat.le_trans HBU.out hbU.size
    have hk3r := HKL.out.bel hbU
    have HRS := Lib.hid hrs
    have HZ3 := Lib.hid hz3
    have HM3 := Lib.hid hm3
    have HS3 := Lib.hid hs3
    have HK3 := Lib.hid hk3r
    refine hK.out _ _ ⟨hz3.row.at_ 3, HK3.out.rng⟩ (fun hHeld => ?_)
    clear hK K hrs hz3 hm3 hs3 hbU hk3r
    try simp only [Act.put, List.getElem_toArray, List.getElem_cons_succ, List.getElem_cons_zero, List.setIfInBounds_toArray, List.set_cons_zero, List.set_cons_succ]
    have hwE : U.alloc (.cells #[.int .u64 (m.kind : Int), .int .u64 (m.id : Int), .int .u64 (m.alias : Int), .slice s.nm.a s.nm.n s.nm.c, .int .u8 (m.prio : Int), .int .u8 (m.ord : Int), .int .u64 (m.sg : Int), .int .u64 (m.so : Int), .int .u64 (m.eg : Int), .int .u64 (m.eo : Int), .bool m.some, .int .u64 (m.code : Int), .slice s.rs.a s.rs.n s.rs.c, .int .u64 (m.n : Int), .int .u64 (m.ver : Int), .slice s.vs.a s.vs.n s.vs.c, .int .i64 1] 49) = U.alloc (.cells (akc ⟨m, 1⟩ s).toArray 49) := rfl
    rw [hwE] at hHeld ⊢
    clear hwE
    generalize (World.alloc _ _) = w3 at *
    refine wpAnyU_ready (rs := [9]) (by kernel_rfl) (by simp) (AllReadyU.cons rfl (fun K hK => ?_) AllReadyU.nil)
    refine S_append_atZ tA HZ3.out.th.row HRS.out _ _ rfl rfl rfl rfl (by omega) (by unfold maxLen; omega) hB3 ?_
    intro a2 c2 w4 o4 g4 d4
    have hap := HZ3.out.app_th (x := ⟨m, 1⟩) HM3.out o4 g4 d4
    have qf := hap.1.fr 3
    have HA := Lib.hid hap
    have hkk := HK3.out.keep (g4.block k HK3.out.lt (fun he => by
      obtain ⟨ad, h5, h6⟩ := Option.map_eq_some_iff.1 he.symm
      exact HZ3.out.th.row.neCR HK3.out (by decide) ad h5 h6))
    refine hK.out _ _ ⟨HA.out.1.at_ 3, hkk.rng⟩ (fun hHeld => ?_)
    clear hK K hap o4 g4 d4 hkk
    try simp only [Act.put, List.getElem_toArray, List.getElem_cons_succ, List.getElem_cons_zero, List.setIfInBounds_toArray, List.set_cons_zero, List.set_cons_succ]
    refine wpAnyU_ready (rs := [10]) (by kernel_rfl) (by simp) (AllReadyU.cons rfl (fun K hK => ?_) AllReadyU.nil)
    go_simp
    refine hK.out _ _ hHeld (fun hHeld => ?_)
    clear hK K
    try simp only [Act.put, List.getElem_toArray, List.getElem_cons_succ, List.getElem_cons_zero, List.setIfInBounds_toArray, List.set_cons_zero, List.set_cons_succ]
    refine wpAnyU_ready (rs := [11]) (by kernel_rfl) (by simp) (AllReadyU.cons rfl (fun K hK => ?_) AllReadyU.nil)
    go_simp
    refine hK.out _ _ hHeld (fun hHeld => ?_)
    clear hK K
    try simp only [Act.put, List.getElem_toArray, List.getElem_cons_succ, List.getElem_cons_zero, List.setIfInBounds_toArray, List.set_cons_zero, List.set_cons_succ]
    refine wpAnyU_ready (rs := [12]) (by kernel_rfl) (by simp) (AllReadyU.cons rfl (fun K hK => ?_) AllReadyU.nil)
    go_simp
    refine hK.out _ _ hHeld (fun hHeld => ?_)
    clear hK K
    try simp only [Act.put, List.getElem_toArray, List.getElem_cons_succ, List.getElem_cons_zero, List.setIfInBounds_toArray, List.set_cons_zero, List.set_cons_succ]
    have d5 := hHeld.1
    refine wpAnyU_ready (rs := [13]) (by kernel_rfl) (by simp) (AllReadyU.consT rfl (by kernel_rfl) (fun K hK => ?_) AllReadyU.nil)
    go_simp
    refine hK.out _ _ ?_
    clear hK K
    try simp only [Act.put, List.getElem_toArray, List.getElem_cons_succ, List.getElem_cons_zero, List.setIfInBounds_toArray, List.set_cons_zero, List.set_cons_succ]
    refine wpAnyU_done (by kernel_rfl) ?_ _
    try simp only [Act.put, List.getElem_toArray, List.getElem_cons_succ, List.getElem_cons_zero]
    go_wp2
    go_ret
    exact ⟨rfl, _, HA.out.2.1, HS3.out.trans HA.out.2.2⟩
  | false =>
    have q1 : ((m.id : Int) != (A.th.n : Int) * 2 + 1) = false := by simp at hid ⊢; omega
    unfold mgc u64 SA.v at hw1 ⊢
    clear hb hR h h1 hm hm1 hn hid ht hk3 hal hal2 hsk1 hB
    go_enter Tryd.func32, Tryd.ntmps32
    go_upto_region 9 with (fail)
    clear c1 g0 g4 hor q1 q2 c0 c2 g3
    obtain ⟨V, hV⟩ : ∃ V, w1.drew = V := ⟨_, rfl⟩
    have bV : Below w1.heap.size w1 V := by rw [← hV]; exact (Below.refl _ _).drew
    have HBV := Lib.hid bV
    refine wp_region_held_drew (S := fun x => x.cell? ⟨k, 0, none⟩ = some (.int .u64 (m.kind : Int)) ∧ x.cell? ⟨k, 2, none⟩ = some (.int .u64 (m.alias : Int)) ∧ x.cell? ⟨g, 3, none⟩ = some (.slice A.th.a A.th.n A.th.c)) (by kernel_rfl) (HP.out w1 (Below.refl _ _)) (fun hHeld => ?_)
    rw [hV] at hHeld ⊢
    clear bV hV
    refine wpAnyH_take (i := 0) (v := .pointer (some ⟨k, 0, none⟩)) rfl (by kernel_rfl) (by kernel_rfl) (by kernel_rfl) (fun _ _ _ h => h) (Or.inl ⟨by rfl, fun w h => by go_simp⟩) hHeld ?_
    try simp only [Act.put, List.getElem_toArray, List.getElem_cons_zero, List.setIfInBounds_toArray, List.set_cons_zero, List.set_cons_succ]
    refine wpAnyH_take (i := 1) (v := .int .u64 (m.kind : Int)) rfl (by kernel_rfl) (by kernel_rfl) (by kernel_rfl) (fun _ _ _ h => h) (Or.inl ⟨by rfl, fun w h => by go_simp⟩) hHeld ?_
    try simp only [Act.put, List.getElem_toArray, List.getElem_cons_succ, List.getElem_cons_zero, List.setIfInBounds_toArray, List.set_cons_zero, List.set_cons_succ]
    refine wpAnyH_take (i := 2) (v := .bool false) rfl (by kernel_rfl) (by kernel_rfl) (by kernel_rfl) (fun _ _ _ h => h) (Or.inl ⟨by rfl, fun w h => by go_simp⟩) hHeld ?_
    try simp only [Act.put, List.getElem_toArray, List.getElem_cons_succ, List.getElem_cons_zero, List.setIfInBounds_toArray, List.set_cons_zero, List.set_cons_succ]
    refine wpAnyH_take (i := 3) (v := .bool false) rfl (by kernel_rfl) (by kernel_rfl) (by kernel_rfl) (fun _ _ _ h => h) (Or.inl ⟨by rfl, fun w h => by go_simp⟩) hHeld ?_
    try simp only [Act.put, List.getElem_toArray, List.getElem_cons_succ, List.getElem_cons_zero, List.setIfInBounds_toArray, List.set_cons_zero, List.set_cons_succ]
    refine wpAnyH_take (i := 4) (v := undef) rfl (by kernel_rfl) (by kernel_rfl) (by kernel_rfl) (fun _ _ _ h => h) (Or.inr ⟨by rfl, rfl⟩) hHeld ?_
    try simp only [Act.put, List.getElem_toArray, List.getElem_cons_succ, List.getElem_cons_zero, List.setIfInBounds_toArray, List.set_cons_zero, List.set_cons_succ]
    refine wpAnyH_take (i := 5) (v := undef) rfl (by kernel_rfl) (by kernel_rfl) (by kernel_rfl) (fun _ _ _ h => h) (Or.inr ⟨by rfl, rfl⟩) hHeld ?_
    try simp only [Act.put, List.getElem_toArray, List.getElem_cons_succ, List.getElem_cons_zero, List.setIfInBounds_toArray, List.set_cons_zero, List.set_cons_succ]
    refine wpAnyH_take (i := 6) (v := undef) rfl (by kernel_rfl) (by kernel_rfl) (by kernel_rfl) (fun _ _ _ h => h) (Or.inr ⟨by rfl, rfl⟩) hHeld ?_
    try simp only [Act.put, List.getElem_toArray, List.getElem_cons_succ, List.getElem_cons_zero, List.setIfInBounds_toArray, List.set_cons_zero, List.set_cons_succ]
    refine wpAnyH_take (i := 7) (v := undef) rfl (by kernel_rfl) (by kernel_rfl) (by kernel_rfl) (fun _ _ _ h => h) (Or.inr ⟨by rfl, rfl⟩) hHeld ?_
    try simp only [Act.put, List.getElem_toArray, List.getElem_cons_succ, List.getElem_cons_zero, List.setIfInBounds_toArray, List.set_cons_zero, List.set_cons_succ]
    refine wpAnyH_take (i := 8) (v := undef) rfl (by kernel_rfl) (by kernel_rfl) (by kernel_rfl) (fun _ _ _ h => h) (Or.inr ⟨by rfl, rfl⟩) hHeld ?_
    try simp only [Act.put, List.getElem_toArray, List.getElem_cons_succ, List.getElem_cons_zero, List.setIfInBounds_toArray, List.set_cons_zero, List.set_cons_succ]
    refine wpAnyH_take (i := 9) (v := undef) rfl (by kernel_rfl) (by kernel_rfl) (by kernel_rfl) (fun _ _ _ h => h) (Or.inr ⟨by rfl, rfl⟩) hHeld ?_
    try simp only [Act.put, List.getElem_toArray, List.getElem_cons_succ, List.getElem_cons_zero, List.setIfInBounds_toArray, List.set_cons_zero, List.set_cons_succ]
    refine wpAnyH_take (i := 10) (v := .bool false) rfl (by kernel_rfl) (by kernel_rfl) (by kernel_rfl) (fun _ _ _ h => h) (Or.inl ⟨by rfl, fun w h => by go_simp⟩) hHeld ?_
    try simp only [Act.put, List.getElem_toArray, List.getElem_cons_succ, List.getElem_cons_zero, List.setIfInBounds_toArray, List.set_cons_zero, List.set_cons_succ]
    refine wpAnyH_take (i := 11) (v := .bool false) rfl (by kernel_rfl) (by kernel_rfl) (by kernel_rfl) (fun _ _ _ h => h) (Or.inl ⟨by rfl, fun w h => by go_simp⟩) hHeld ?_
    try simp only [Act.put, List.getElem_toArray, List.getElem_cons_succ, List.getElem_cons_zero, List.setIfInBounds_toArray, List.set_cons_zero, List.set_cons_succ]
    have HB2 := HBV
    obtain ⟨w2, hw2⟩ : ∃ x, V = x := ⟨_, rfl⟩
    rw [hw2] at HB2 ⊢
    clear hw2
    refine wpAnyH_done (by kernel_rfl) ?_ _
    try simp only [Act.put, List.getElem_toArray, List.getElem_cons_succ, List.getElem_cons_zero]
    go_upto_region 11 with (fail)
    have hz2 := H1.out.bel HB2.out
    have hr2 := HR.out.bel HB2.out
    have hm2 := HM1.out.bel HB2.out (Nat.le_refl _)
    have hsk2 := HSK1.out.trans (SK.bel (g := g) (A := A) HB2.out)
    obtain ⟨U, hU⟩ : ∃ U, w2.drew = U := ⟨_, rfl⟩
    have hzU : SZ U base g S A := by rw [← hU]; exact hz2.drew
    have hskU : SK w g A U A := by rw [← hU]; exact hsk2.trans (SK.bel (Below.refl _ _).drew)
    have hmU : MO U base m s := by rw [← hU]; exact hm2.bel (Below.refl w2.heap.size w2).drew (Nat.le_refl _)
    have HZU := Lib.hid hzU
    have HSU := Lib.hid hskU
    have HMU := Lib.hid hmU
    have h52 : w2.cell? ⟨g, 3, none⟩ = some (.slice A.th.a A.th.n A.th.c) ∧ w2.rangeAt k 0 [.int .u64 (m.kind : Int), .int .u64 (m.id : Int), .int .u64 (m.alias : Int), .slice s.nm.a s.nm.n s.nm.c, .int .u8 (m.prio : Int), .int .u8 (m.ord : Int), .int .u64 (m.sg : Int), .int .u64 (m.so : Int), .int .u64 (m.eg : Int), .int .u64 (m.eo : Int), .bool m.some, .int .u64 (m.code : Int), .slice s.rs.a s.rs.n s.rs.c, .int .u64 (m.n : Int), .int .u64 (m.ver : Int), .slice s.vs.a s.vs.n s.vs.c] := ⟨hz2.row.at_ 3, hr2.rng⟩
    have H52 := Lib.hid h52
    have HBU := Lib.hid (Nat.le_trans (Nat.le_trans HB1.out HB2.out.size) (show w2.heap.size ≤ U.heap.size by rw [← hU]; exact Nat.le_refl _))
    have hkl : CR U k 31 (mgc m s) := by rw [← hU]; exact hr2
    have HKL := Lib.hid hkl
    clear hz2 hr2 hm2 hsk2 hzU hskU hmU h52 hkl HB2 HP HAL H1 HR HM1 HSK1 HB1 HBV
    refine wp_region_U 13 (S := fun x => x.cell? ⟨g, 3, none⟩ = some (.slice A.th.a A.th.n A.th.c) ∧ x.rangeAt k 0 [.int .u64 (m.kind : Int), .int .u64 (m.id : Int), .int .u64 (m.alias : Int), .slice s.nm.a s.nm.n s.nm.c, .int .u8 (m.prio : Int), .int .u8 (m.ord : Int), .int .u64 (m.sg : Int), .int .u64 (m.so : Int), .int .u64 (m.eg : Int), .int .u64 (m.eo : Int), .bool m.some, .int .u64 (m.code : Int), .slice s.rs.a s.rs.n s.rs.c, .int .u64 (m.n : Int), .int .u64 (m.ver : Int), .slice s.vs.a s.vs.n s.vs.c]) (by kernel_rfl) H52.out (fun hHeld => ?_)
    rw [hU] at hHeld ⊢
    clear H52 hU
    refine wpAnyU_take (i := 0) (v := .pointer (some ⟨g, 0, none⟩)) rfl (by kernel_rfl) (by kernel_rfl) (by kernel_rfl) (by kernel_rfl) rfl (by kernel_rfl) (fun _ _ _ h => h) (Or.inl ⟨by rfl, fun w h => by go_simp⟩) hHeld ?_
    try simp only [Act.put, List.getElem_toArray, List.getElem_cons_zero, List.setIfInBounds_toArray, List.set_cons_zero, List.set_cons_succ]
    refine wpAnyU_take (i := 1) (v := .pointer (some ⟨g, 0, none⟩)) rfl (by kernel_rfl) (by kernel_rfl) (by kernel_rfl) (by kernel_rfl) rfl (by kernel_rfl) (fun _ _ _ h => h) (Or.inl ⟨by rfl, fun w h => by go_simp⟩) hHeld ?_
    try simp only [Act.put, List.getElem_toArray, List.getElem_cons_succ, List.getElem_cons_zero, List.setIfInBounds_toArray, List.set_cons_zero, List.set_cons_succ]
    refine wpAnyU_take (i := 2) (v := .pointer (some ⟨g, 0, none⟩)) rfl (by kernel_rfl) (by kernel_rfl) (by kernel_rfl) (by kernel_rfl) rfl (by kernel_rfl) (fun _ _ _ h => h) (Or.inl ⟨by rfl, fun w h => by go_simp⟩) hHeld ?_
    try simp only [Act.put, List.getElem_toArray, List.getElem_cons_succ, List.getElem_cons_zero, List.setIfInBounds_toArray, List.set_cons_zero, List.set_cons_succ]
    refine wpAnyU_take (i := 3) (v := .pointer (some ⟨g, 3, none⟩)) rfl (by kernel_rfl) (by kernel_rfl) (by kernel_rfl) (by kernel_rfl) rfl (by kernel_rfl) (fun _ _ _ h => h) (Or.inl ⟨by rfl, fun w h => by go_simp⟩) hHeld ?_
    try simp only [Act.put, List.getElem_toArray, List.getElem_cons_succ, List.getElem_cons_zero, List.setIfInBounds_toArray, List.set_cons_zero, List.set_cons_succ]
    refine wpAnyU_take (i := 4) (v := .pointer (some ⟨g, 3, none⟩)) rfl (by kernel_rfl) (by kernel_rfl) (by kernel_rfl) (by kernel_rfl) rfl (by kernel_rfl) (fun _ _ _ h => h) (Or.inl ⟨by rfl, fun w h => by go_simp⟩) hHeld ?_
    try simp only [Act.put, List.getElem_toArray, List.getElem_cons_succ, List.getElem_cons_zero, List.setIfInBounds_toArray, List.set_cons_zero, List.set_cons_succ]
    refine wpAnyU_take (i := 5) (v := .slice A.th.a A.th.n A.th.c) rfl (by kernel_rfl) (by kernel_rfl) (by kernel_rfl) (by kernel_rfl) rfl (by kernel_rfl) (fun _ _ _ h => h) (Or.inl ⟨by rfl, fun w h => by go_simp⟩) hHeld ?_
    try simp only [Act.put, List.getElem_toArray, List.getElem_cons_succ, List.getElem_cons_zero, List.setIfInBounds_toArray, List.set_cons_zero, List.set_cons_succ]
    refine wpAnyU_take (i := 6) rfl (by kernel_rfl) (by kernel_rfl) (by kernel_rfl) (by kernel_rfl) rfl (by kernel_rfl) (fun _ _ _ h => h) (yieldsIf_load_mid (by rfl) _ _ rfl _ _ rfl _ _ (fun w h => h.2) Tryd.underlying31 rfl iMsg) hHeld ?_
    try simp only [Act.put, List.getElem_toArray, List.getElem_cons_succ, List.getElem_cons_zero, List.setIfInBounds_toArray, List.set_cons_zero, List.set_cons_succ]
    refine wpAnyU_take (i := 7) (v := .agg #[.int .u64 (m.kind : Int), .int .u64 (m.id : Int), .int .u64 (m.alias : Int), .slice s.nm.a s.nm.n s.nm.c, .int .u8 (m.prio : Int), .int .u8 (m.ord : Int), .int .u64 (m.sg : Int), .int .u64 (m.so : Int), .int .u64 (m.eg : Int), .int .u64 (m.eo : Int), .bool m.some, .int .u64 (m.code : Int), .slice s.rs.a s.rs.n s.rs.c, .int .u64 (m.n : Int), .int .u64 (m.ver : Int), .slice s.vs.a s.vs.n s.vs.c, .int .i64 1]) rfl (by kernel_rfl) (by kernel_rfl) (by kernel_rfl) (by kernel_rfl) rfl (by kernel_rfl) (fun _ _ _ h => h) (Or.inl ⟨by rfl, fun w h => by go_simp⟩) hHeld ?_
    try simp only [Act.put, List.getElem_toArray, List.getElem_cons_succ, List.getElem_cons_zero, List.setIfInBounds_toArray, List.set_cons_zero, List.set_cons_succ]
    refine wpAnyU_ready (rs := [8]) (by kernel_rfl) (by simp) (AllReadyU.cons rfl (fun K hK => ?_) AllReadyU.nil)
    go_simp
    have hrs := (OW_made U 0 49 17 (akc ⟨m, 1⟩ s).toArray 1 (Nat.zero_le _) rfl (by unfold maxLen; omega) (by
      intro v hv
      simp only [akc, List.mem_append, List.mem_singleton] at hv
      rcases hv with hv | rfl
      · exact mgc_one m s v hv
      · rfl)).rs
    have hbU := below_alloc U (.cells (akc ⟨m, 1⟩ s).toArray 49)
    have hz3 := HZU.out.bel hbU
    have hm3 := HMU.out.bel hbU (Nat.le_refl _)
    have hs3 := HSU.out.trans (SK.bel (g := g) (A := A) hbU)
    have hB3 : base ≤ (U.alloc (.cells (akc ⟨m, 1⟩ s).toArray 49)).heap.size := Nat.le_trans HBU.out hbU.size
    have hk3r := HKL.out.bel hbU
    have HRS := Lib.hid hrs
    have HZ3 := Lib.hid hz3
    have HM3 := Lib.hid hm3
    have HS3 := Lib.hid hs3
    have HK3 := Lib.hid hk3r
    refine hK.out _ _ ⟨hz3.row.at_ 3, HK3.out.rng⟩ (fun hHeld => ?_)
    clear hK K hrs hz3 hm3 hs3 hbU hk3r
    try simp only [Act.put, List.getElem_toArray, List.getElem_cons_succ, List.getElem_cons_zero, List.setIfInBounds_toArray, List.set_cons_zero, List.set_cons_succ]
    have hwE : U.alloc (.cells #[.int .u64 (m.kind : Int), .int .u64 (m.id : Int), .int .u64 (m.alias : Int), .slice s.nm.a s.nm.n s.nm.c, .int .u8 (m.prio : Int), .int .u8 (m.ord : Int), .int .u64 (m.sg : Int), .int .u64 (m.so : Int), .int .u64 (m.eg : Int), .int .u64 (m.eo : Int), .bool m.some, .int .u64 (m.code : Int), .slice s.rs.a s.rs.n s.rs.c, .int .u64 (m.n : Int), .int .u64 (m.ver : Int), .slice s.vs.a s.vs.n s.vs.c, .int .i64 1] 49) = U.alloc (.cells (akc ⟨m, 1⟩ s).toArray 49) := rfl
    rw [hwE] at hHeld ⊢
    clear hwE
    generalize (World.alloc _ _) = w3 at *
    refine wpAnyU_ready (rs := [9]) (by kernel_rfl) (by simp) (AllReadyU.cons rfl (fun K hK => ?_) AllReadyU.nil)
    refine S_append_atZ tA HZ3.out.th.row HRS.out _ _ rfl rfl rfl rfl (by omega) (by unfold maxLen; omega) hB3 ?_
    intro a2 c2 w4 o4 g4 d4
    have hap := HZ3.out.app_th (x := ⟨m, 1⟩) HM3.out o4 g4 d4
    have qf := hap.1.fr 3
    have HA := Lib.hid hap
    have hkk := HK3.out.keep (g4.block k HK3.out.lt (fun he => by
      obtain ⟨ad, h5, h6⟩ := Option.map_eq_some_iff.1 he.symm
      exact HZ3.out.th.row.neCR HK3.out (by decide) ad h5 h6))
    refine hK.out _ _ ⟨HA.out.1.at_ 3, hkk.rng⟩ (fun hHeld => ?_)
    clear hK K hap o4 g4 d4 hkk
    try simp only [Act.put, List.getElem_toArray, List.getElem_cons_succ, List.getElem_cons_zero, List.setIfInBounds_toArray, List.set_cons_zero, List.set_cons_succ]
    refine wpAnyU_ready (rs := [10]) (by kernel_rfl) (by simp) (AllReadyU.cons rfl (fun K hK => ?_) AllReadyU.nil)
    go_simp
    refine hK.out _ _ hHeld (fun hHeld => ?_)
    clear hK K
    try simp only [Act.put, List.getElem_toArray, List.getElem_cons_succ, List.getElem_cons_zero, List.setIfInBounds_toArray, List.set_cons_zero, List.set_cons_succ]
    refine wpAnyU_ready (rs := [11]) (by kernel_rfl) (by simp) (AllReadyU.cons rfl (fun K hK => ?_) AllReadyU.nil)
    go_simp
    refine hK.out _ _ hHeld (fun hHeld => ?_)
    clear hK K
    try simp only [Act.put, List.getElem_toArray, List.getElem_cons_succ, List.getElem_cons_zero, List.setIfInBounds_toArray, List.set_cons_zero, List.set_cons_succ]
    refine wpAnyU_ready (rs := [12]) (by kernel_rfl) (by simp) (AllReadyU.cons rfl (fun K hK => ?_) AllReadyU.nil)
    go_simp
    refine hK.out _ _ hHeld (fun hHeld => ?_)
    clear hK K
    try simp only [Act.put, List.getElem_toArray, List.getElem_cons_succ, List.getElem_cons_zero, List.setIfInBounds_toArray, List.set_cons_zero, List.set_cons_succ]
    have d5 := hHeld.1
    refine wpAnyU_ready (rs := [13]) (by kernel_rfl) (by simp) (AllReadyU.consT rfl (by kernel_rfl) (fun K hK => ?_) AllReadyU.nil)
    go_simp
    refine hK.out _ _ ?_
    clear hK K
    try simp only [Act.put, List.getElem_toArray, List.getElem_cons_succ, List.getElem_cons_zero, List.setIfInBounds_toArray, List.set_cons_zero, List.set_cons_succ]
    refine wpAnyU_done (by kernel_rfl) ?_ _
    try simp only [Act.put, List.getElem_toArray, List.getElem_cons_succ, List.getElem_cons_zero]
    go_wp2
    go_ret
    exact ⟨rfl, _, HA.out.2.1, HS3.out.trans HA.out.2.2⟩
set_option maxHeartbeats 4000000 in
theorem asked_3 (h : SZ w base g S A) {m : MG} {s : ML} (hm : MO w base m s) (hl : S.their.length ≤ 1048576) (hB : base ≤ w.heap.size) (hid : m.id = nextS S) (ht : ¬ S.tl ≤ S.their.length) (hk3 : m.kind = 3) (hal0 : S.their.any (aliasB m.alias) = false) :
    Calls Tryd.prog 32 #[.pointer (some ⟨g, 0, none⟩), .agg (mgc m s).toArray] w fun e w' => e = .returned (.int .u64 0) ∧ ∃ A', SZ w' base g { S with their := S.their ++ [⟨m, 1⟩] } A' ∧ SK w g A w' A' := by
  obtain ⟨h1, hm1, hR, hb⟩ := boxed h hm
  obtain ⟨k, hk⟩ : ∃ k, w.heap.size = k := ⟨_, rfl⟩
  obtain ⟨w1, hw1⟩ : ∃ x', w.alloc (.cells (mgc m s).toArray 31) = x' := ⟨_, rfl⟩
  rw [hw1, hk] at hR
  rw [hw1] at hb h1 hm1
  have c0 : w1.cell? ⟨k, 0, none⟩ = some (.int .u64 (m.kind : Int)) := hR.at_ 0
  have c1 : w1.cell? ⟨k, 1, none⟩ = some (.int .u64 (m.id : Int)) := hR.at_ 1
  have c2 : w1.cell? ⟨k, 2, none⟩ = some (.int .u64 (m.alias : Int)) := hR.at_ 2
  have g0 : w1.cell? ⟨g, 0, none⟩ = some (.bool S.srv) := h1.row.at_ 0
  have g3 : w1.cell? ⟨g, 3, none⟩ = some (.slice A.th.a A.th.n A.th.c) := h1.row.at_ 3
  have g4 : w1.cell? ⟨g, 4, none⟩ = some (.int .u64 (S.tl : Int)) := h1.row.at_ 4
  have hn : S.their.length = A.th.n := h.th.n
  rw [hn] at hl
  have HB := Lib.hid hb
  have HR := Lib.hid hR
  have H1 := Lib.hid h1
  have HM1 := Lib.hid hm1
  have hsk1 := SK.bel (g := g) (A := A) hb
  have HSK1 := Lib.hid hsk1
  have HB1 := Lib.hid (Nat.le_trans hB hb.size)
  have hor := or_odd A.th.n (by omega)
  unfold nextS at hid
  rw [hn] at hid ht
  have q2 : decide (S.tl ≤ A.th.n) = false := decide_eq_false (by omega)
  have hal := fun (x : World) (b : Below w1.heap.size w1 x) => alias_any (w := x) (g := g) (o := 3) (h1.bel b).th (by omega) m.alias ((h1.bel b).row.at_ 3)
  obtain ⟨al, hal2⟩ : ∃ b, S.their.any (aliasB m.alias) = b := ⟨_, rfl⟩
  rw [hal2] at hal hal0
  have HAL := Lib.hid hal
  have HP := Lib.hid (fun (x : World) (b : Below w1.heap.size w1 x) => (⟨(hR.bel b).at_ 0, (hR.bel b).at_ 2, (h1.bel b).row.at_ 3⟩ : x.cell? ⟨k, 0, none⟩ = some (.int .u64 (m.kind : Int)) ∧ x.cell? ⟨k, 2, none⟩ = some (.int .u64 (m.alias : Int)) ∧ x.cell? ⟨g, 3, none⟩ = some (.slice A.th.a A.th.n A.th.c)))
  subst hal0
  have qk : ((m.kind : Int) == 3) = true := by simp; omega
  obtain ⟨sv, hsv⟩ : ∃ b, S.srv = b := ⟨_, rfl⟩
  rw [hsv] at g0 hid
  clear hsv
  cases sv with
  | true =>
    have q1 : ((m.id : Int) != (A.th.n : Int) * 2) = false := by simp at hid ⊢; omega
    unfold mgc u64 SA.v at hw1 ⊢
    clear hb hR h h1 hm hm1 hn hid ht hk3 hal hal2 hsk1 hB
    go_enter Tryd.func32, Tryd.ntmps32
    go_upto_region 9 with (fail)
    clear c1 g0 g4 hor q1 q2 c0 c2 g3
    obtain ⟨V, hV⟩ : ∃ V, w1.drew = V := ⟨_, rfl⟩
    have bV : Below w1.heap.size w1 V := by rw [← hV]; exact (Below.refl _ _).drew
    have HBV := Lib.hid bV
    refine wp_region_held_drew (S := fun x => x.cell? ⟨k, 0, none⟩ = some (.int .u64 (m.kind : Int)) ∧ x.cell? ⟨k, 2, none⟩ = some (.int .u64 (m.alias : Int)) ∧ x.cell? ⟨g, 3, none⟩ = some (.slice A.th.a A.th.n A.th.c)) (by kernel_rfl) (HP.out w1 (Below.refl _ _)) (fun hHeld => ?_)
    rw [hV] at hHeld ⊢
    clear bV hV
    refine wpAnyH_take (i := 0) (v := .pointer (some ⟨k, 0, none⟩)) rfl (by kernel_rfl) (by kernel_rfl) (by kernel_rfl) (fun _ _ _ h => h) (Or.inl ⟨by rfl, fun w h => by go_simp⟩) hHeld ?_
    try simp only [Act.put, List.getElem_toArray, List.getElem_cons_zero, List.setIfInBounds_toArray, List.set_cons_zero, List.set_cons_succ]
    refine wpAnyH_take (i := 1) (v := .int .u64 (m.kind : Int)) rfl (by kernel_rfl) (by kernel_rfl) (by kernel_rfl) (fun _ _ _ h => h) (Or.inl ⟨by rfl, fun w h => by go_simp⟩) hHeld ?_
    try simp only [Act.put, List.getElem_toArray, List.getElem_cons_succ, List.getElem_cons_zero, List.setIfInBounds_toArray, List.set_cons_zero, List.set_cons_succ]
    refine wpAnyH_take (i := 2) (v := .bool true) rfl (by kernel_rfl) (by kernel_rfl) (by kernel_rfl) (fun _ _ _ h => h) (Or.inl ⟨by rfl, fun w h => by go_simp⟩) hHeld ?_
    try simp only [Act.put, List.getElem_toArray, List.getElem_cons_succ, List.getElem_cons_zero, List.setIfInBounds_toArray, List.set_cons_zero, List.set_cons_succ]
    refine wpAnyH_take (i := 3) (v := .bool true) rfl (by kernel_rfl) (by kernel_rfl) (by kernel_rfl) (fun _ _ _ h => h) (Or.inl ⟨by rfl, fun w h => by go_simp⟩) hHeld ?_
    try simp only [Act.put, List.getElem_toArray, List.getElem_cons_succ, List.getElem_cons_zero, List.setIfInBounds_toArray, List.set_cons_zero, List.set_cons_succ]
    refine wpAnyH_take (i := 4) (v := .pointer (some ⟨g, 0, none⟩)) rfl (by kernel_rfl) (by kernel_rfl) (by kernel_rfl) (fun _ _ _ h => h) (Or.inl ⟨by rfl, fun w h => by go_simp⟩) hHeld ?_
    try simp only [Act.put, List.getElem_toArray, List.getElem_cons_succ, List.getElem_cons_zero, List.setIfInBounds_toArray, List.set_cons_zero, List.set_cons_succ]
    refine wpAnyH_take (i := 5) (v := .pointer (some ⟨g, 0, none⟩)) rfl (by kernel_rfl) (by kernel_rfl) (by kernel_rfl) (fun _ _ _ h => h) (Or.inl ⟨by rfl, fun w h => by go_simp⟩) hHeld ?_
    try simp only [Act.put, List.getElem_toArray, List.getElem_cons_succ, List.getElem_cons_zero, List.setIfInBounds_toArray, List.set_cons_zero, List.set_cons_succ]
    refine wpAnyH_take (i := 6) (v := .pointer (some ⟨g, 3, none⟩)) rfl (by kernel_rfl) (by kernel_rfl) (by kernel_rfl) (fun _ _ _ h => h) (Or.inl ⟨by rfl, fun w h => by go_simp⟩) hHeld ?_
    try simp only [Act.put, List.getElem_toArray, List.getElem_cons_succ, List.getElem_cons_zero, List.setIfInBounds_toArray, List.set_cons_zero, List.set_cons_succ]
    refine wpAnyH_take (i := 7) (v := .pointer (some ⟨k, 2, none⟩)) rfl (by kernel_rfl) (by kernel_rfl) (by kernel_rfl) (fun _ _ _ h => h) (Or.inl ⟨by rfl, fun w h => by go_simp⟩) hHeld ?_
    try simp only [Act.put, List.getElem_toArray, List.getElem_cons_succ, List.getElem_cons_zero, List.setIfInBounds_toArray, List.set_cons_zero, List.set_cons_succ]
    refine wpAnyH_take (i := 8) (v := .int .u64 (m.alias : Int)) rfl (by kernel_rfl) (by kernel_rfl) (by kernel_rfl) (fun _ _ _ h => h) (Or.inl ⟨by rfl, fun w h => by go_simp⟩) hHeld ?_
    try simp only [Act.put, List.getElem_toArray, List.getElem_cons_succ, List.getElem_cons_zero, List.setIfInBounds_toArray, List.set_cons_zero, List.set_cons_succ]
    refine wpAnyH_ready (rs := [9]) (by kernel_rfl) (by simp) (AllReadyH.cons rfl (fun K hK => ?_) AllReadyH.nil)
    go_simp
    go_at_call 39
    refine (HAL.out V HBV.out).mono ?_
    rintro y w2 ⟨rfl, B2⟩
    have HB2 := Lib.hid (btr HBV.out B2)
    refine hK.out _ _ (HP.out w2 HB2.out) (fun hHeld => ?_)
    clear hK K B2
    try simp only [Act.put, List.getElem_toArray, List.getElem_cons_succ, List.getElem_cons_zero, List.setIfInBounds_toArray, List.set_cons_zero, List.set_cons_succ]
    refine wpAnyH_take (i := 10) (v := .bool false) rfl (by kernel_rfl) (by kernel_rfl) (by kernel_rfl) (fun _ _ _ h => h) (Or.inl ⟨by rfl, fun w h => by go_simp⟩) hHeld ?_
    try simp only [Act.put, List.getElem_toArray, List.getElem_cons_succ, List.getElem_cons_zero, List.setIfInBounds_toArray, List.set_cons_zero, List.set_cons_succ]
    refine wpAnyH_take (i := 11) (v := .bool false) rfl (by kernel_rfl) (by kernel_rfl) (by kernel_rfl) (fun _ _ _ h => h) (Or.inl ⟨by rfl, fun w h => by go_simp⟩) hHeld ?_
    try simp only [Act.put, List.getElem_toArray, List.getElem_cons_succ, List.getElem_cons_zero, List.setIfInBounds_toArray, List.set_cons_zero, List.set_cons_succ]
    refine wpAnyH_done (by kernel_rfl) ?_ _
    try simp only [Act.put, List.getElem_toArray, List.getElem_cons_succ, List.getElem_cons_zero]
    go_upto_region 11 with (fail)
    have hz2 := H1.out.bel HB2.out
    have hr2 := HR.out.bel HB2.out
    have hm2 := HM1.out.bel HB2.out (Nat.le_refl _)
    have hsk2 := HSK1.out.trans (SK.bel (g := g) (A := A) HB2.out)
    obtain ⟨U, hU⟩ : ∃ U, w2.drew = U := ⟨_, rfl⟩
    have hzU : SZ U base g S A := by rw [← hU]; exact hz2.drew
    have hskU : SK w g A U A := by rw [← hU]; exact hsk2.trans (SK.bel (Below.refl _ _).drew)
    have hmU : MO U base m s := by rw [← hU]; exact hm2.bel (Below.refl w2.heap.size w2).drew (Nat.le_refl _)
    have HZU := Lib.hid hzU
    have HSU := Lib.hid hskU
    have HMU := Lib.hid hmU
    have h52 : w2.cell? ⟨g, 3, none⟩ = some (.slice A.th.a A.th.n A.th.c) ∧ w2.rangeAt k 0 [.int .u64 (m.kind : Int), .int .u64 (m.id : Int), .int .u64 (m.alias : Int), .slice s.nm.a s.nm.n s.nm.c, .int .u8 (m.prio : Int), .int .u8 (m.ord : Int), .int .u64 (m.sg : Int), .int .u64 (m.so : Int), .int .u64 (m.eg : Int), .int .u64 (m.eo : Int), .bool m.some, .int .u64 (m.code : Int), .slice s.rs.a s.rs.n s.rs.c, .int .u64 (m.n : Int), .int .u64 (m.ver : Int), .slice s.vs.a s.vs.n s.vs.c] := ⟨hz2.row.at_ 3, hr2.rng⟩
    have H52 := Lib.hid h52
    have HBU := Lib.hid (Nat.le_trans (Nat.le_trans HB1.out HB2.out.size) (show w2.heap.size ≤ U.heap.size by rw [← hU]; exact Nat.le_refl _))
    have hkl : CR U k 31 (mgc m s) := by rw [← hU]; exact hr2
    have HKL := Lib.hid hkl
    clear hz2 hr2 hm2 hsk2 hzU hskU hmU h52 hkl HB2 HP HAL H1 HR HM1 HSK1 HB1 HBV
    refine wp_region_U 13 (S := fun x => x.cell? ⟨g, 3, none⟩ = some (.slice A.th.a A.th.n A.th.c) ∧ x.rangeAt k 0 [.int .u64 (m.kind : Int), .int .u64 (m.id : Int), .int .u64 (m.alias : Int), .slice s.nm.a s.nm.n s.nm.c, .int .u8 (m.prio : Int), .int .u8 (m.ord : Int), .int .u64 (m.sg : Int), .int .u64 (m.so : Int), .int .u64 (m.eg : Int), .int .u64 (m.eo : Int), .bool m.some, .int .u64 (m.code : Int), .slice s.rs.a s.rs.n s.rs.c, .int .u64 (m.n : Int), .int .u64 (m.ver : Int), .slice s.vs.a s.vs.n s.vs.c]) (by kernel_rfl) H52.out (fun hHeld => ?_)
    rw [hU] at hHeld ⊢
    clear H52 hU
    refine wpAnyU_take (i := 0) (v := .pointer (some ⟨g, 0, none⟩)) rfl (by kernel_rfl) (by kernel_rfl) (by kernel_rfl) (by kernel_rfl) rfl (by kernel_rfl) (fun _ _ _ h => h) (Or.inl ⟨by rfl, fun w h => by go_simp⟩) hHeld ?_
    try simp only [Act.put, List.getElem_toArray, List.getElem_cons_zero, List.setIfInBounds_toArray, List.set_cons_zero, List.set_cons_succ]
    refine wpAnyU_take (i := 1) (v := .pointer (some ⟨g, 0, none⟩)) rfl (by kernel_rfl) (by kernel_rfl) (by kernel_rfl) (by kernel_rfl) rfl (by kernel_rfl) (fun _ _ _ h => h) (Or.inl ⟨by rfl, fun w h => by go_simp⟩) hHeld ?_
    try simp only [Act.put, List.getElem_toArray, List.getElem_cons_succ, List.getElem_cons_zero, List.setIfInBounds_toArray, List.set_cons_zero, List.set_cons_succ]
    refine wpAnyU_take (i := 2) (v := .pointer (some ⟨g, 0, none⟩)) rfl (by kernel_rfl) (by kernel_rfl) (by kernel_rfl) (by kernel_rfl) rfl (by kernel_rfl) (fun _ _ _ h => h) (Or.inl ⟨by rfl, fun w h => by go_simp⟩) hHeld ?_
    try simp only [Act.put, List.getElem_toArray, List.getElem_cons_succ, List.getElem_cons_zero, List.setIfInBounds_toArray, List.set_cons_zero, List.set_cons_succ]
    refine wpAnyU_take (i := 3) (v := .pointer (some ⟨g, 3, none⟩)) rfl (by kernel_rfl) (by kernel_rfl) (by kernel_rfl) (by kernel_rfl) rfl (by kernel_rfl) (fun _ _ _ h => h) (Or.inl ⟨by rfl, fun w h => by go_simp⟩) hHeld ?_
    try simp only [Act.put, List.getElem_toArray, List.getElem_cons_succ, List.getElem_cons_zero, List.setIfInBounds_toArray, List.set_cons_zero, List.set_cons_succ]
    refine wpAnyU_take (i := 4) (v := .pointer (some ⟨g, 3, none⟩)) rfl (by kernel_rfl) (by kernel_rfl) (by kernel_rfl) (by kernel_rfl) rfl (by kernel_rfl) (fun _ _ _ h => h) (Or.inl ⟨by rfl, fun w h => by go_simp⟩) hHeld ?_
    try simp only [Act.put, List.getElem_toArray, List.getElem_cons_succ, List.getElem_cons_zero, List.setIfInBounds_toArray, List.set_cons_zero, List.set_cons_succ]
    refine wpAnyU_take (i := 5) (v := .slice A.th.a A.th.n A.th.c) rfl (by kernel_rfl) (by kernel_rfl) (by kernel_rfl) (by kernel_rfl) rfl (by kernel_rfl) (fun _ _ _ h => h) (Or.inl ⟨by rfl, fun w h => by go_simp⟩) hHeld ?_
    try simp only [Act.put, List.getElem_toArray, List.getElem_cons_succ, List.getElem_cons_zero, List.setIfInBounds_toArray, List.set_cons_zero, List.set_cons_succ]
    refine wpAnyU_take (i := 6) rfl (by kernel_rfl) (by kernel_rfl) (by kernel_rfl) (by kernel_rfl) rfl (by kernel_rfl) (fun _ _ _ h => h) (yieldsIf_load_mid (by rfl) _ _ rfl _ _ rfl _ _ (fun w h => h.2) Tryd.underlying31 rfl iMsg) hHeld ?_
    try simp only [Act.put, List.getElem_toArray, List.getElem_cons_succ, List.getElem_cons_zero, List.setIfInBounds_toArray, List.set_cons_zero, List.set_cons_succ]
    refine wpAnyU_take (i := 7) (v := .agg #[.int .u64 (m.kind : Int), .int .u64 (m.id : Int), .int .u64 (m.alias : Int), .slice s.nm.a s.nm.n s.nm.c, .int .u8 (m.prio : Int), .int .u8 (m.ord : Int), .int .u64 (m.sg : Int), .int .u64 (m.so : Int), .int .u64 (m.eg : Int), .int .u64 (m.eo : Int), .bool m.some, .int .u64 (m.code : Int), .slice s.rs.a s.rs.n s.rs.c, .int .u64 (m.n : Int), .int .u64 (m.ver : Int), .slice s.vs.a s.vs.n s.vs.c, .int .i64 1]) rfl (by kernel_rfl) (by kernel_rfl) (by kernel_rfl) (by kernel_rfl) rfl (by kernel_rfl) (fun _ _ _ h => h) (Or.inl ⟨by rfl, fun w h => by go_simp⟩) hHeld ?_
    try simp only [Act.put, List.getElem_toArray, List.getElem_cons_succ, List.getElem_cons_zero, List.setIfInBounds_toArray, List.set_cons_zero, List.set_cons_succ]
    refine wpAnyU_ready (rs := [8]) (by kernel_rfl) (by simp) (AllReadyU.cons rfl (fun K hK => ?_) AllReadyU.nil)
    go_simp
    have hrs := (OW_made U 0 49 17 (akc ⟨m, 1⟩ s).toArray 1 (Nat.zero_le _) rfl (by unfold maxLen; omega) (by
      intro v hv
      simp only [akc, List.mem_append, List.mem_singleton] at hv
      rcases hv with hv | rfl
      · exact mgc_one m s v hv
      · rfl)).rs
    have hbU := below_alloc U (.cells (akc ⟨m, 1⟩ s).toArray 49)
    have hz3 := HZU.out.bel hbU
    have hm3 := HMU.out.bel hbU (Nat.le_refl _)
    have hs3 := HSU.out.trans (SK.bel (g := g) (A := A) hbU)
    have hB3 : base ≤ (U.alloc (.cells (akc ⟨m, 1⟩ s).toArray 49)).heap.size := Nat.le_trans HBU.out hbU.size
    have hk3r := HKL.out.bel hbU
    have HRS := Lib.hid hrs
    have HZ3 := Lib.hid hz3
    have HM3 := Lib.hid hm3
    have HS3 := Lib.hid hs3
    have HK3 := Lib.hid hk3r
    refine hK.out _ _ ⟨hz3.row.at_ 3, HK3.out.rng⟩ (fun hHeld => ?_)
    clear hK K hrs hz3 hm3 hs3 hbU hk3r
    try simp only [Act.put, List.getElem_toArray, List.getElem_cons_succ, List.getElem_cons_zero, List.setIfInBounds_toArray, List.set_cons_zero, List.set_cons_succ]
    have hwE : U.alloc (.cells #[.int .u64 (m.kind : Int), .int .u64 (m.id : Int), .int .u64 (m.alias : Int), .slice s.nm.a s.nm.n s.nm.c, .int .u8 (m.prio : Int), .int .u8 (m.ord : Int), .int .u64 (m.sg : Int), .int .u64 (m.so : Int), .int .u64 (m.eg : Int), .int .u64 (m.eo : Int), .bool m.some, .int .u64 (m.code : Int), .slice s.rs.a s.rs.n s.rs.c, .int .u64 (m.n : Int), .int .u64 (m.ver : Int), .slice s.vs.a s.vs.n s.vs.c, .int .i64 1] 49) = U.alloc (.cells (akc ⟨m, 1⟩ s).toArray 49) := rfl
    rw [hwE] at hHeld ⊢
    clear hwE
    generalize (World.alloc _ _) = w3 at *
    refine wpAnyU_ready (rs := [9]) (by kernel_rfl) (by simp) (AllReadyU.cons rfl (fun K hK => ?_) AllReadyU.nil)
    refine S_append_atZ tA HZ3.out.th.row HRS.out _ _ rfl rfl rfl rfl (by omega) (by unfold maxLen; omega) hB3 ?_
    intro a2 c2 w4 o4 g4 d4
    have hap := HZ3.out.app_th (x := ⟨m, 1⟩) HM3.out o4 g4 d4
    have qf := hap.1.fr 3
    have HA := Lib.hid hap
    have hkk := HK3.out.keep (g4.block k HK3.out.lt (fun he => by
      obtain ⟨ad, h5, h6⟩ := Option.map_eq_some_iff.1 he.symm
      exact HZ3.out.th.row.neCR HK3.out (by decide) ad h5 h6))
    refine hK.out _ _ ⟨HA.out.1.at_ 3, hkk.rng⟩ (fun hHeld => ?_)
    clear hK K hap o4 g4 d4 hkk
    try simp only [Act.put, List.getElem_toArray, List.getElem_cons_succ, List.getElem_cons_zero, List.setIfInBounds_toArray, List.set_cons_zero, List.set_cons_succ]
    refine wpAnyU_ready (rs := [10]) (by kernel_rfl) (by simp) (AllReadyU.cons rfl (fun K hK => ?_) AllReadyU.nil)
    go_simp
    refine hK.out _ _ hHeld (fun hHeld => ?_)
    clear hK K
    try simp only [Act.put, List.getElem_toArray, List.getElem_cons_succ, List.getElem_cons_zero, List.setIfInBounds_toArray, List.set_cons_zero, List.set_cons_succ]
    refine wpAnyU_ready (rs := [11]) (by kernel_rfl) (by simp) (AllReadyU.cons rfl (fun K hK => ?_) AllReadyU.nil)
    go_simp
    refine hK.out _ _ hHeld (fun hHeld => ?_)
    clear hK K
    try simp only [Act.put, List.getElem_toArray, List.getElem_cons_succ, List.getElem_cons_zero, List.setIfInBounds_toArray, List.set_cons_zero, List.set_cons_succ]
    refine wpAnyU_ready (rs := [12]) (by kernel_rfl) (by simp) (AllReadyU.cons rfl (fun K hK => ?_) AllReadyU.nil)
    go_simp
    refine hK.out _ _ hHeld (fun hHeld => ?_)
    clear hK K
    try simp only [Act.put, List.getElem_toArray, List.getElem_cons_succ, List.getElem_cons_zero, List.setIfInBounds_toArray, List.set_cons_zero, List.set_cons_succ]
    have d5 := hHeld.1
    refine wpAnyU_ready (rs := [13]) (by kernel_rfl) (by simp) (AllReadyU.consT rfl (by kernel_rfl) (fun K hK => ?_) AllReadyU.nil)
    go_simp
    refine hK.out _ _ ?_
    clear hK K
    try simp only [Act.put, List.getElem_toArray, List.getElem_cons_succ, List.getElem_cons_zero, List.setIfInBounds_toArray, List.set_cons_zero, List.set_cons_succ]
    refine wpAnyU_done (by kernel_rfl) ?_ _
    try simp only [Act.put, List.getElem_toArray, List.getElem_cons_succ, List.getElem_cons_zero]
    go_wp2
    go_ret
    exact ⟨rfl, _, HA.out.2.1, HS3.out.trans HA.out.2.2⟩
  | false =>
    have q1 : ((m.id : Int) != (A.th.n : Int) * 2 + 1) = false := by simp at hid ⊢; omega
    unfold mgc u64 SA.v at hw1 ⊢
    clear hb hR h h1 hm hm1 hn hid ht hk3 hal hal2 hsk1 hB
    go_enter Tryd.func32, Tryd.ntmps32
    go_upto_region 9 with (fail)
    clear c1 g0 g4 hor q1 q2 c0 c2 g3
    obtain ⟨V, hV⟩ : ∃ V, w1.drew = V := ⟨_, rfl⟩
    have bV : Below w1.heap.size w1 V := by rw [← hV]; exact (Below.refl _ _).drew
    have HBV := Lib.hid bV
    refine wp_region_held_drew (S := fun x => x.cell? ⟨k, 0, none⟩ = some (.int .u64 (m.kind : Int)) ∧ x.cell? ⟨k, 2, none⟩ = some (.int .u64 (m.alias : Int)) ∧ x.cell? ⟨g, 3, none⟩ = some (.slice A.th.a A.th.n A.th.c)) (by kernel_rfl) (HP.out w1 (Below.refl _ _)) (fun hHeld => ?_)
    rw [hV] at hHeld ⊢
    clear bV hV
    refine wpAnyH_take (i := 0) (v := .pointer (some ⟨k, 0, none⟩)) rfl (by kernel_rfl) (by kernel_rfl) (by kernel_rfl) (fun _ _ _ h => h) (Or.inl ⟨by rfl, fun w h => by go_simp⟩) hHeld ?_
    try simp only [Act.put, List.getElem_toArray, List.getElem_cons_zero, List.setIfInBounds_toArray, List.set_cons_zero, List.set_cons_succ]
    refine wpAnyH_take (i := 1) (v := .int .u64 (m.kind : Int)) rfl (by kernel_rfl) (by kernel_rfl) (by kernel_rfl) (fun _ _ _ h => h) (Or.inl ⟨by rfl, fun w h => by go_simp⟩) hHeld ?_
    try simp only [Act.put, List.getElem_toArray, List.getElem_cons_succ, List.getElem_cons_zero, List.setIfInBounds_toArray, List.set_cons_zero, List.set_cons_succ]
    refine wpAnyH_take (i := 2) (v := .bool true) rfl (by kernel_rfl) (by kernel_rfl) (by kernel_rfl) (fun _ _ _ h => h) (Or.inl ⟨by rfl, fun w h => by go_simp⟩) hHeld ?_
    try simp only [Act.put, List.getElem_toArray, List.getElem_cons_succ, List.getElem_cons_zero, List.setIfInBounds_toArray, List.set_cons_zero, List.set_cons_succ]
    refine wpAnyH_take (i := 3) (v := .bool true) rfl (by kernel_rfl) (by kernel_rfl) (by kernel_rfl) (fun _ _ _ h => h) (Or.inl ⟨by rfl, fun w h => by go_simp⟩) hHeld ?_
    try simp only [Act.put, List.getElem_toArray, List.getElem_cons_succ, List.getElem_cons_zero, List.setIfInBounds_toArray, List.set_cons_zero, List.set_cons_succ]
    refine wpAnyH_take (i := 4) (v := .pointer (some ⟨g, 0, none⟩)) rfl (by kernel_rfl) (by kernel_rfl) (by kernel_rfl) (fun _ _ _ h => h) (Or.inl ⟨by rfl, fun w h => by go_simp⟩) hHeld ?_
    try simp only [Act.put, List.getElem_toArray, List.getElem_cons_succ, List.getElem_cons_zero, List.setIfInBounds_toArray, List.set_cons_zero, List.set_cons_succ]
    refine wpAnyH_take (i := 5) (v := .pointer (some ⟨g, 0, none⟩)) rfl (by kernel_rfl) (by kernel_rfl) (by kernel_rfl) (fun _ _ _ h => h) (Or.inl ⟨by rfl, fun w h => by go_simp⟩) hHeld ?_
    try simp only [Act.put, List.getElem_toArray, List.getElem_cons_succ, List.getElem_cons_zero, List.setIfInBounds_toArray, List.set_cons_zero, List.set_cons_succ]
    refine wpAnyH_take (i := 6) (v := .pointer (some ⟨g, 3, none⟩)) rfl (by kernel_rfl) (by kernel_rfl) (by kernel_rfl) (fun _ _ _ h => h) (Or.inl ⟨by rfl, fun w h => by go_simp⟩) hHeld ?_
    try simp only [Act.put, List.getElem_toArray, List.getElem_cons_succ, List.getElem_cons_zero, List.setIfInBounds_toArray, List.set_cons_zero, List.set_cons_succ]
    refine wpAnyH_take (i := 7) (v := .pointer (some ⟨k, 2, none⟩)) rfl (by kernel_rfl) (by kernel_rfl) (by kernel_rfl) (fun _ _ _ h => h) (Or.inl ⟨by rfl, fun w h => by go_simp⟩) hHeld ?_
    try simp only [Act.put, List.getElem_toArray, List.getElem_cons_succ, List.getElem_cons_zero, List.setIfInBounds_toArray, List.set_cons_zero, List.set_cons_succ]
    refine wpAnyH_take (i := 8) (v := .int .u64 (m.alias : Int)) rfl (by kernel_rfl) (by kernel_rfl) (by kernel_rfl) (fun _ _ _ h => h) (Or.inl ⟨by rfl, fun w h => by go_simp⟩) hHeld ?_
    try simp only [Act.put, List.getElem_toArray, List.getElem_cons_succ, List.getElem_cons_zero, List.setIfInBounds_toArray, List.set_cons_zero, List.set_cons_succ]
    refine wpAnyH_ready (rs := [9]) (by kernel_rfl) (by simp) (AllReadyH.cons rfl (fun K hK => ?_) AllReadyH.nil)
    go_simp
    go_at_call 39
    refine (HAL.out V HBV.out).mono ?_
    rintro y w2 ⟨rfl, B2⟩
    have HB2 := Lib.hid (btr HBV.out B2)
    refine hK.out _ _ (HP.out w2 HB2.out) (fun hHeld => ?_)
    clear hK K B2
    try simp only [Act.put, List.getElem_toArray, List.getElem_cons_succ, List.getElem_cons_zero, List.setIfInBounds_toArray, List.set_cons_zero, List.set_cons_succ]
    refine wpAnyH_take (i := 10) (v := .bool false) rfl (by kernel_rfl) (by kernel_rfl) (by kernel_rfl) (fun _ _ _ h => h) (Or.inl ⟨by rfl, fun w h => by go_simp⟩) hHeld ?_
    try simp only [Act.put, List.getElem_toArray, List.getElem_cons_succ, List.getElem_cons_zero, List.setIfInBounds_toArray, List.set_cons_zero, List.set_cons_succ]
    refine wpAnyH_take (i := 11) (v := .bool false) rfl (by kernel_rfl) (by kernel_rfl) (by kernel_rfl) (fun _ _ _ h => h) (Or.inl ⟨by rfl, fun w h => by go_simp⟩) hHeld ?_
    try simp only [Act.put, List.getElem_toArray, List.getElem_cons_succ, List.getElem_cons_zero, List.setIfInBounds_toArray, List.set_cons_zero, List.set_cons_succ]
    refine wpAnyH_done (by kernel_rfl) ?_ _
    try simp only [Act.put, List.getElem_toArray, List.getElem_cons_succ, List.getElem_cons_zero]
    go_upto_region 11 with (fail)
    have hz2 := H1.out.bel HB2.out
    have hr2 := HR.out.bel HB2.out
    have hm2 := HM1.out.bel HB2.out (Nat.le_refl _)
    have hsk2 := HSK1.out.trans (SK.bel (g := g) (A := A) HB2.out)
    obtain ⟨U, hU⟩ : ∃ U, w2.drew = U := ⟨_, rfl⟩
    have hzU : SZ U base g S A := by rw [← hU]; exact hz2.drew
    have hskU : SK w g A U A := by rw [← hU]; exact hsk2.trans (SK.bel (Below.refl _ _).drew)
    have hmU : MO U base m s := by rw [← hU]; exact hm2.bel (Below.refl w2.heap.size w2).drew (Nat.le_refl _)
    have HZU := Lib.hid hzU
    have HSU := Lib.hid hskU
    have HMU := Lib.hid hmU
    have h52 : w2.cell? ⟨g, 3, none⟩ = some (.slice A.th.a A.th.n A.th.c) ∧ w2.rangeAt k 0 [.int .u64 (m.kind : Int), .int .u64 (m.id : Int), .int .u64 (m.alias : Int), .slice s.nm.a s.nm.n s.nm.c, .int .u8 (m.prio : Int), .int .u8 (m.ord : Int), .int .u64 (m.sg : Int), .int .u64 (m.so : Int), .int .u64 (m.eg : Int), .int .u64 (m.eo : Int), .bool m.some, .int .u64 (m.code : Int), .slice s.rs.a s.rs.n s.rs.c, .int .u64 (m.n : Int), .int .u64 (m.ver : Int), .slice s.vs.a s.vs.n s.vs.c] := ⟨hz2.row.at_ 3, hr2.rng⟩
    have H52 := Lib.hid h52
    have HBU := Lib.hid (Nat.le_trans (Nat.le_trans HB1.out HB2.out.size) (show w2.heap.size ≤ U.heap.size by rw [← hU]; exact Nat.le_refl _))
    have hkl : CR U k 31 (mgc m s) := by rw [← hU]; exact hr2
    have HKL := Lib.hid hkl
    clear hz2 hr2 hm2 hsk2 hzU hskU hmU h52 hkl HB2 HP HAL H1 HR HM1 HSK1 HB1 HBV
    refine wp_region_U 13 (S := fun x => x.cell? ⟨g, 3, none⟩ = some (.slice A.th.a A.th.n A.th.c) ∧ x.rangeAt k 0 [.int .u64 (m.kind : Int), .int .u64 (m.id : Int), .int .u64 (m.alias : Int), .slice s.nm.a s.nm.n s.nm.c, .int .u8 (m.prio : Int), .int .u8 (m.ord : Int), .int .u64 (m.sg : Int), .int .u64 (m.so : Int), .int .u64 (m.eg : Int), .int .u64 (m.eo : Int), .bool m.some, .int .u64 (m.code : Int), .slice s.rs.a s.rs.n s.rs.c, .int .u64 (m.n : Int), .int .u64 (m.ver : Int), .slice s.vs.a s.vs.n s.vs.c]) (by kernel_rfl) H52.out (fun hHeld => ?_)
    rw [hU] at hHeld ⊢
    clear H52 hU
    refine wpAnyU_take (i := 0) (v := .pointer (some ⟨g, 0, none⟩)) rfl (by kernel_rfl) (by kernel_rfl) (by kernel_rfl) (by kernel_rfl) rfl (by kernel_rfl) (fun _ _ _ h => h) (Or.inl ⟨by rfl, fun w h => by go_simp⟩) hHeld ?_
    try simp only [Act.put, List.getElem_toArray, List.getElem_cons_zero, List.setIfInBounds_toArray, List.set_cons_zero, List.set_cons_succ]
    refine wpAnyU_take (i := 1) (v := .pointer (some ⟨g, 0, none⟩)) rfl (by kernel_rfl) (by kernel_rfl) (by kernel_rfl) (by kernel_rfl) rfl (by kernel_rfl) (fun _ _ _ h => h) (Or.inl ⟨by rfl, fun w h => by go_simp⟩) hHeld ?_
    try simp only [Act.put, List.getElem_toArray, List.getElem_cons_succ, List.getElem_cons_zero, List.setIfInBounds_toArray, List.set_cons_zero, List.set_cons_succ]
    refine wpAnyU_take (i := 2) (v := .pointer (some ⟨g, 0, none⟩)) rfl (by kernel_rfl) (by kernel_rfl) (by kernel_rfl) (by kernel_rfl) rfl (by kernel_rfl) (fun _ _ _ h => h) (Or.inl ⟨by rfl, fun w h => by go_simp⟩) hHeld ?_
    try simp only [Act.put, List.getElem_toArray, List.getElem_cons_succ, List.getElem_cons_zero, List.setIfInBounds_toArray, List.set_cons_zero, List.set_cons_succ]
    refine wpAnyU_take (i := 3) (v := .pointer (some ⟨g, 3, none⟩)) rfl (by kernel_rfl) (by kernel_rfl) (by kernel_rfl) (by kernel_rfl) rfl (by kernel_rfl) (fun _ _ _ h => h) (Or.inl ⟨by rfl, fun w h => by go_simp⟩) hHeld ?_
    try simp only [Act.put, List.getElem_toArray, List.getElem_cons_succ, List.getElem_cons_zero, List.setIfInBounds_toArray, List.set_cons_zero, List.set_cons_succ]
    refine wpAnyU_take (i := 4) (v := .pointer (some ⟨g, 3, none⟩)) rfl (by kernel_rfl) (by kernel_rfl) (by kernel_rfl) (by kernel_rfl) rfl (by kernel_rfl) (fun _ _ _ h => h) (Or.inl ⟨by rfl, fun w h => by go_simp⟩) hHeld ?_
    try simp only [Act.put, List.getElem_toArray, List.getElem_cons_succ, List.getElem_cons_zero, List.setIfInBounds_toArray, List.set_cons_zero, List.set_cons_succ]
    refine wpAnyU_take (i := 5) (v := .slice A.th.a A.th.n A.th.c) rfl (by kernel_rfl) (by kernel_rfl) (by kernel_rfl) (by kernel_rfl) rfl (by kernel_rfl) (fun _ _ _ h => h) (Or.inl ⟨by rfl, fun w h => by go_simp⟩) hHeld ?_
    try simp only [Act.put, List.getElem_toArray, List.getElem_cons_succ, List.getElem_cons_zero, List.setIfInBounds_toArray, List.set_cons_zero, List.set_cons_succ]
    refine wpAnyU_take (i := 6) rfl (by kernel_rfl) (by kernel_rfl) (by kernel_rfl) (by kernel_rfl) rfl (by kernel_rfl) (fun _ _ _ h => h) (yieldsIf_load_mid (by rfl) _ _ rfl _ _ rfl _ _ (fun w h => h.2) Tryd.underlying31 rfl iMsg) hHeld ?_
    try simp only [Act.put, List.getElem_toArray, List.getElem_cons_succ, List.getElem_cons_zero, List.setIfInBounds_toArray, List.set_cons_zero, List.set_cons_succ]
    refine wpAnyU_take (i := 7) (v := .agg #[.int .u64 (m.kind : Int), .int .u64 (m.id : Int), .int .u64 (m.alias : Int), .slice s.nm.a s.nm.n s.nm.c, .int .u8 (m.prio : Int), .int .u8 (m.ord : Int), .int .u64 (m.sg : Int), .int .u64 (m.so : Int), .int .u64 (m.eg : Int), .int .u64 (m.eo : Int), .bool m.some, .int .u64 (m.code : Int), .slice s.rs.a s.rs.n s.rs.c, .int .u64 (m.n : Int), .int .u64 (m.ver : Int), .slice s.vs.a s.vs.n s.vs.c, .int .i64 1]) rfl (by kernel_rfl) (by kernel_rfl) (by kernel_rfl) (by kernel_rfl) rfl (by kernel_rfl) (fun _ _ _ h => h) (Or.inl ⟨by rfl, fun w h => by go_simp⟩) hHeld ?_
    try simp only [Act.put, List.getElem_toArray, List.getElem_cons_succ, List.getElem_cons_zero, List.setIfInBounds_toArray, List.set_cons_zero, List.set_cons_succ]
    refine wpAnyU_ready (rs := [8]) (by kernel_rfl) (by simp) (AllReadyU.cons rfl (fun K hK => ?_) AllReadyU.nil)
    go_simp
    have hrs := (OW_made U 0 49 17 (akc ⟨m, 1⟩ s).toArray 1 (Nat.zero_le _) rfl (by unfold maxLen; omega) (by
      intro v hv
      simp only [akc, List.mem_append, List.mem_singleton] at hv
      rcases hv with hv | rfl
      · exact mgc_one m s v hv
      · rfl)).rs
    have hbU := below_alloc U (.cells (akc ⟨m, 1⟩ s).toArray 49)
    have hz3 := HZU.out.bel hbU
    have hm3 := HMU.out.bel hbU (Nat.le_refl _)
    have hs3 := HSU.out.trans (SK.bel (g := g) (A := A) hbU)
    have hB3 : base ≤ (U.alloc (.cells (akc ⟨m, 1⟩ s).toArray 49)).heap.size := Nat.le_trans HBU.out hbU.size
    have hk3r := HKL.out.bel hbU
    have HRS := Lib.hid hrs
    have HZ3 := Lib.hid hz3
    have HM3 := Lib.hid hm3
    have HS3 := Lib.hid hs3
    have HK3 := Lib.hid hk3r
    refine hK.out _ _ ⟨hz3.row.at_ 3, HK3.out.rng⟩ (fun hHeld => ?_)
    clear hK K hrs hz3 hm3 hs3 hbU hk3r
    try simp only [Act.put, List.getElem_toArray, List.getElem_cons_succ, List.getElem_cons_zero, List.setIfInBounds_toArray, List.set_cons_zero, List.set_cons_succ]
    have hwE : U.alloc (.cells #[.int .u64 (m.kind : Int), .int .u64 (m.id : Int), .int .u64 (m.alias : Int), .slice s.nm.a s.nm.n s.nm.c, .int .u8 (m.prio : Int), .int .u8 (m.ord : Int), .int .u64 (m.sg : Int), .int .u64 (m.so : Int), .int .u64 (m.eg : Int), .int .u64 (m.eo : Int), .bool m.some, .int .u64 (m.code : Int), .slice s.rs.a s.rs.n s.rs.c, .int .u64 (m.n : Int), .int .u64 (m.ver : Int), .slice s.vs.a s.vs.n s.vs.c, .int .i64 1] 49) = U.alloc (.cells (akc ⟨m, 1⟩ s).toArray 49) := rfl
    rw [hwE] at hHeld ⊢
    clear hwE
    generalize (World.alloc _ _) = w3 at *
    refine wpAnyU_ready (rs := [9]) (by kernel_rfl) (by simp) (AllReadyU.cons rfl (fun K hK => ?_) AllReadyU.nil)
    refine S_append_atZ tA HZ3.out.th.row HRS.out _ _ rfl rfl rfl rfl (by omega) (by unfold maxLen; omega) hB3 ?_
    intro a2 c2 w4 o4 g4 d4
    have hap := HZ3.out.app_th (x := ⟨m, 1⟩) HM3.out o4 g4 d4
    have qf := hap.1.fr 3
    have HA := Lib.hid hap
    have hkk := HK3.out.keep (g4.block k HK3.out.lt (fun he => by
      obtain ⟨ad, h5, h6⟩ := Option.map_eq_some_iff.1 he.symm
      exact HZ3.out.th.row.neCR HK3.out (by decide) ad h5 h6))
    refine hK.out _ _ ⟨HA.out.1.at_ 3, hkk.rng⟩ (fun hHeld => ?_)
    clear hK K hap o4 g4 d4 hkk
    try simp only [Act.put, List.getElem_toArray, List.getElem_cons_succ, List.getElem_cons_zero, List.setIfInBounds_toArray, List.set_cons_zero, List.set_cons_succ]
    refine wpAnyU_ready (rs := [10]) (by kernel_rfl) (by simp) (AllReadyU.cons rfl (fun K hK => ?_) AllReadyU.nil)
    go_simp
    refine hK.out _ _ hHeld (fun hHeld => ?_)
    clear hK K
    try simp only [Act.put, List.getElem_toArray, List.getElem_cons_succ, List.getElem_cons_zero, List.setIfInBounds_toArray, List.set_cons_zero, List.set_cons_succ]
    refine wpAnyU_ready (rs := [11]) (by kernel_rfl) (by simp) (AllReadyU.cons rfl (fun K hK => ?_) AllReadyU.nil)
    go_simp
    refine hK.out _ _ hHeld (fun hHeld => ?_)
    clear hK K
    try simp only [Act.put, List.getElem_toArray, List.getElem_cons_succ, List.getElem_cons_zero, List.setIfInBounds_toArray, List.set_cons_zero, List.set_cons_succ]
    refine wpAnyU_ready (rs := [12]) (by kernel_rfl) (by simp) (AllReadyU.cons rfl (fun K hK => ?_) AllReadyU.nil)
    go_simp
    refine hK.out _ _ hHeld (fun hHeld => ?_)
    clear hK K
    try simp only [Act.put, List.getElem_toArray, List.getElem_cons_succ, List.getElem_cons_zero, List.setIfInBounds_toArray, List.set_cons_zero, List.set_cons_succ]
    have d5 := hHeld.1
    refine wpAnyU_ready (rs := [13]) (by kernel_rfl) (by simp) (AllReadyU.consT rfl (by kernel_rfl) (fun K hK => ?_) AllReadyU.nil)
    go_simp
    refine hK.out _ _ ?_
    clear hK K
    try simp only [Act.put, List.getElem_toArray, List.getElem_cons_succ, List.getElem_cons_zero, List.setIfInBounds_toArray, List.set_cons_zero, List.set_cons_succ]
    refine wpAnyU_done (by kernel_rfl) ?_ _
    try simp only [Act.put, List.getElem_toArray, List.getElem_cons_succ, List.getElem_cons_zero]
    go_wp2
    go_ret
    exact ⟨rfl, _, HA.out.2.1, HS3.out.trans HA.out.2.2⟩
theorem asked_any (h : SZ w base g S A) {m : MG} {s : ML} (hm : MO w base m s) (hl : S.their.length ≤ 1048576) (hB : base ≤ w.heap.size) :
    Calls Tryd.prog 32 #[.pointer (some ⟨g, 0, none⟩), .agg (mgc m s).toArray] w fun e w' => e = .returned (.int .u64 ((askedS S m).2 : Int)) ∧ ∃ A', SZ w' base g (askedS S m).1 A' ∧ SK w g A w' A' := by
  have no : ∀ {c : Nat} {e : Ending} {w' : World}, (e = .returned (.int .u64 (c : Int)) ∧ Below w.heap.size w w') → (e = .returned (.int .u64 (c : Int)) ∧ ∃ A', SZ w' base g S A' ∧ SK w g A w' A') := fun hh => ⟨hh.1, A, h.bel hh.2, SK.bel hh.2⟩
  unfold askedS
  by_cases hid : m.id = nextS S
  · rw [if_neg (by simpa using hid)]
    by_cases ht : S.tl ≤ S.their.length
    · rw [if_pos ht]
      exact (asked_many h hm hl hB hid ht).mono fun e w' hh => no (c := 7) hh
    · rw [if_neg ht]
      by_cases hk : m.kind = 3
      · by_cases ha : S.their.any (aliasB m.alias) = true
        · rw [if_pos ⟨hk, ha⟩]
          exact (asked_al h hm hl hB hid ht hk ha).mono fun e w' hh => no (c := 5) hh
        · rw [if_neg (fun hc => ha hc.2)]
          exact asked_3 h hm hl hB hid ht hk (by simpa using ha)
      · rw [if_neg (fun hc => hk hc.1)]
        exact asked_n3 h hm hl hB hid ht hk
  · rw [if_pos hid]
    exact (asked_id h hm hl hB hid).mono fun e w' hh => no (c := 4) hh
end
end Go.Proofs.YtokgpnkooigamaaDoor
