/- pipe: a range over the streams; Streams. -/
import Derived.Test.YteekafpkbdbadaaRC
set_option maxRecDepth 100000
set_option linter.unusedVariables false
namespace Go.Proofs.Yteekafpkbdbadaa.Pi
open Go.RowKit Go.Maps
/-- a range over a map of streams -/
structure LR (w : World) (b r : Nat) (m : Nat → Option Nat) (left : Nat → Bool) (cnt : Nat) : Prop where
  rg : ∃ n, ∃ D : DataW Unit, ∃ L, w.ranges Try.prog 25 ptrR b r n D L cnt ∧ ((∀ id : Nat, D.atKey (.int .u64 (id : Int)) .nil = dat (m id)) ∧ ∀ id : Nat, has D (.int .u64 (id : Int)) = true → m id ≠ none) ∧ ∀ id : Nat, L (.int .u64 (id : Int)) = left id
theorem same64 (a b : Nat) : (Lit.int .u64 (a : Int)).sameKey (.int .u64 (b : Int)) = (a == b) := by
  by_cases h : a = b
  · subst h
    simp [Lit.sameKey]
  · rw [sameKey_ne (fun he => by injection he with _ he; exact h (by omega))]
    simpa using fun hh => h hh
theorem wf64 {x : Int} (h : (Lit.int .u64 x).wf = true) : ∃ id : Nat, x = (id : Int) ∧ id < 18446744073709551616 := by
  have h2 : (decide (IntKind.u64.min ≤ x) && decide (x ≤ IntKind.u64.max)) = true := h
  simp only [Bool.and_eq_true, decide_eq_true_eq] at h2
  have e1 : IntKind.u64.min = 0 := by kernel_rfl
  have e2 : IntKind.u64.max = 18446744073709551615 := by kernel_rfl
  rw [e1, e2] at h2
  exact ⟨x.toNat, by omega, by omega⟩
section
variable {w w' : World} {b n r cnt : Nat} {m : Nat → Option Nat} {left : Nat → Bool}
theorem LR.kept (h : LR w b r m left cnt) {row : Option Nat} (hg : w.grownBy w' row) (h1 : some b ≠ row) (h2 : some r ≠ row) : LR w' b r m left cnt := by
  obtain ⟨n, D, L, q, q2⟩ := h.rg
  exact ⟨n, D, L, q.kept hg h1 h2, q2⟩
theorem LR.bel (h : LR w b r m left cnt) (hb : Below w.heap.size w w') : LR w' b r m left cnt := h.kept (row := none) (grown_bel hb none) (by simp) (by simp)
theorem LR.lt (h : LR w b r m left cnt) : b < w.heap.size ∧ r < w.heap.size := by
  obtain ⟨n, D, L, q, q2⟩ := h.rg
  exact ⟨q.owns.lt, q.lt⟩
theorem LR.left_eq (h : LR w b r m left cnt) : w.rangeLeft b r = cnt := by
  obtain ⟨n, D, L, q, _⟩ := h.rg
  exact q.left_eq
theorem L_lrange {ops : Array Oper} {rest : List Oper} {o : Oper} {f : Act} {Q : Exit → Act → World → Prop} (hg : o.guard = none) (x : Operand) (hop : o.op = Op.range 56 x) (h : LM w b n m) (hm : f.eval x = .map (some b))
    (hK : ∀ w' left cnt, LR w' b w.heap.size m left cnt → w.grownBy w' none → w'.heap.size = w.heap.size + 1 → wpList Try.prog ops Q rest (f.put o.dst (.pointer (some ⟨w.heap.size, 0, none⟩))) w') : wpList Try.prog ops Q (o :: rest) f w := by
  obtain ⟨D, h1, h2, h3⟩ := h.own
  exact wpList_range_own w hg x 56 hop 25 73 law64 Try.underlying56 _ b n D hm h1 fun w' r1 r2 r3 => hK w' (fun id => has D (.int .u64 (id : Int))) _ ⟨n, D, _, r1, h3, fun _ => rfl⟩ r2 r3
theorem L_lnext {ops : Array Oper} {rest : List Oper} {o : Oper} {f : Act} {Q : Exit → Act → World → Prop} (hg : o.guard = none) (it : Operand) (hop : o.op = Op.next it false) (h : LR w b r m left cnt) (hit : f.eval it = .pointer (some ⟨r, 0, none⟩))
    (hDone : wpList Try.prog ops Q rest (f.put o.dst (.tuple #[.bool false])) w)
    (hMore : ∀ (id sb : Nat) (w' : World) (cnt' : Nat), Hid (left id = true ∧ m id = some sb ∧ id < 18446744073709551616 ∧ LR w' b r m (fun u => left u && !(u == id)) cnt' ∧ cnt' < cnt ∧ w.grownBy w' (some r) ∧ w'.heap.size = w.heap.size) → (Instr.entry (.pointer (some ⟨r, 0, none⟩))).run Try.prog w' = .ok (.tuple #[.int .u64 (id : Int), .pointer (some ⟨sb, 0, none⟩)]) w' → wpList Try.prog ops Q rest (f.put o.dst (.tuple #[.bool true, .int .u64 (id : Int), .pointer (some ⟨sb, 0, none⟩)])) w') : wpList Try.prog ops Q (o :: rest) f w := by
  obtain ⟨n, D, L, q, h3, h4⟩ := h.rg
  refine wpList_next_ranges w hg it hop 25 law64 ptrR (fun x : Int => Value.int .u64 x) (fun v : Value => v) (fun key kl hk => by obtain ⟨x, rfl, _⟩ := keyOf_int_inv Try.underlying25 hk; exact ⟨x, rfl⟩) (fun v y _ => ⟨v, rfl⟩) b r n D L cnt hit q (fun _ _ => hDone) ?_
  intro x v kl y w' cnt' hk hl hv hat hr hlt hgr hsz hen
  obtain ⟨x', ex, rfl, hwf⟩ := keyOf_int_inv Try.underlying25 hk
  injection ex with _ ex
  subst ex
  obtain ⟨id, rfl, hid⟩ := wf64 hwf
  have hm := h3.2 id (has_true_of_atKey hat)
  cases hmx : m id with
  | none => exact absurd hmx hm
  | some sb =>
    have ha := hat .nil
    rw [h3.1, hmx] at ha
    obtain ⟨y1, y2⟩ := y
    simp only at ha
    subst ha
    have hpv := ptrR_inv hv
    subst hpv
    exact hMore id sb w' cnt' (Lib.hid ⟨by rw [← h4]; exact hl, hmx, hid, ⟨n, D, _, hr, h3, fun u => by rw [h4, same64]⟩, hlt, hgr, hsz⟩) hen
end
/-- a stream that has nothing to send, and is received or over -/
structure SR (s : StS) : Prop where
  out : s.out = none
  inn : ∃ i, s.inn = some i ∧ i.reset = false
def doneS (s : StS) : Bool := match s.inn with | some i => i.done | none => true
def liveB (T : TaS) (id : Nat) : Bool := match T.l id with | some s => !doneS s | none => false
def liveN (T : TaS) (left : Nat → Bool) : Nat := (T.ids.filter (fun id => left id && liveB T id)).length
theorem filter_le {l : List Nat} {p q : Nat → Bool} (h : ∀ x, p x = true → q x = true) : (l.filter p).length ≤ (l.filter q).length := by
  rw [← List.countP_eq_length_filter, ← List.countP_eq_length_filter]
  exact List.countP_mono_left (fun x _ => h x)
theorem filter_drop {l : List Nat} {p : Nat → Bool} {id : Nat} (hm : id ∈ l) (hp : p id = true) : (l.filter (fun u => p u && !(u == id))).length + 1 ≤ (l.filter p).length := by
  have hle : ∀ l : List Nat, (l.filter (fun u => p u && !(u == id))).length ≤ (l.filter p).length := fun l => filter_le (fun x hx => by rw [Bool.and_eq_true] at hx; exact hx.1)
  induction l with
  | nil => cases hm
  | cons x l ih =>
    by_cases hx : x = id
    · have := hle l
      rw [List.filter_cons_of_neg (by simp [hx]), List.filter_cons_of_pos (by rw [hx]; exact hp), List.length_cons]
      omega
    · have hm' : id ∈ l := by cases hm with | head => exact absurd rfl hx | tail _ h => exact h
      have := ih hm'
      by_cases hy : p x = true
      · rw [List.filter_cons_of_pos (by simp [hy, hx]), List.filter_cons_of_pos hy, List.length_cons, List.length_cons]
        omega
      · rw [List.filter_cons_of_neg (by simp [hy]), List.filter_cons_of_neg hy]
        exact this
theorem liveN_drop {T : TaS} {left : Nat → Bool} {id : Nat} (hm : id ∈ T.ids) (hl : left id = true) (hv : liveB T id = true) : liveN T (fun u => left u && !(u == id)) + 1 ≤ liveN T left := by
  have := filter_drop (l := T.ids) (p := fun u => left u && liveB T u) hm (by simp [hl, hv])
  unfold liveN
  have e : (fun u => (left u && !(u == id)) && liveB T u) = (fun u => (left u && liveB T u) && !(u == id)) := by
    funext u
    cases left u <;> cases liveB T u <;> simp
  rw [e]
  exact this
theorem liveN_le {T : TaS} {left : Nat → Bool} {id : Nat} : liveN T (fun u => left u && !(u == id)) ≤ liveN T left :=
  filter_le (fun x hx => by simp only [Bool.and_eq_true] at hx ⊢; exact ⟨hx.1.1, hx.2⟩)
theorem liveN_all (T : TaS) (left : Nat → Bool) : liveN T left ≤ liveN T (fun _ => true) :=
  filter_le (fun x hx => by simp only [Bool.and_eq_true] at hx ⊢; exact ⟨trivial, hx.2⟩)
section
variable {w w' : World} {role : Nat → Nat} {g : Nat} {T : TaS} {Y : TaY}
set_option maxHeartbeats 4000000 in
theorem streams_any (h : TZ w role g T Y) (hs : ∀ id s, T.l id = some s → SR s) (hn : T.ids.length < 1000000) :
    Calls Try.prog 16 #[ptr g] w fun e w' => (∃ c : Nat, e = .returned (.int .i64 (c : Int)) ∧ c ≤ liveN T (fun _ => true)) ∧ Below w.heap.size w w' := by
  have H := Lib.hid h
  have HS := Lib.hid hs
  have HN := Lib.hid (show liveN T (fun _ => true) < 1000000 from Nat.lt_of_le_of_lt (List.length_filter_le _ _) hn)
  have g9 : w.cell? ⟨g, 9, none⟩ = some (.map (some Y.ml)) := h.row.cr.at_ 9
  unfold ptr
  clear h hs hn
  go_enter Try.func16, Try.ntmps16
  go_wp2_with (refine L_lrange rfl _ rfl H.out.lm.1 rfl ?_; intro w1 left0 cnt0 lr1 hg1 hs1)
  obtain ⟨rr, hrr⟩ : ∃ q, w.heap.size = q := ⟨_, rfl⟩
  rw [hrr] at lr1 ⊢
  have HL1 := Lib.hid lr1
  have HB1 := Lib.hid ((Below.refl w.heap.size w).grown hg1 (Nat.le_refl _) (fun j hj => by cases hj))
  have HRR := Lib.hid hrr
  clear g9 lr1 hg1 hs1 hrr
  go_frame
  go_loopw [3] (fun s3 wr => ∃ (left : Nat → Bool) (cnt c : Nat), s3 = .int .i64 (c : Int) ∧ LR wr Y.ml rr (fun id => (T.l id).map fun _ => Y.sb id) left cnt ∧ Below rr w wr ∧ c + liveN T left ≤ liveN T (fun _ => true)) (fun _ wr => wr.rangeLeft Y.ml rr)
  case atStart => exact ⟨_, _, 0, rfl, HL1.out, by rw [← HRR.out]; exact HB1.out, by rw [Nat.zero_add]; exact liveN_all _ _⟩
  case round =>
    obtain ⟨left, cnt, c, rfl, hlr, hbr, hc⟩ := hrel
    have HK := Lib.hid hlr
    have HBR := Lib.hid hbr
    have HC := Lib.hid hc
    clear hlr hbr hc
    have HRW := Lib.hid (show rr ≤ wr.heap.size from Nat.le_trans (Nat.le_of_eq HRR.out.symm) HBR.out.size)
    go_wp2_with (refine L_lnext rfl _ rfl HK.out rfl ?_ ?_)
    · go_wp2_with fail
      go_ret
      exact ⟨⟨c, rfl, by have := HC.out; omega⟩, by rw [HRR.out]; exact HBR.out⟩
    · intro id sb w9 cnt' HM hen
      have b9 : Below rr w w9 := HBR.out.grown HM.out.2.2.2.2.2.1 HRW.out (fun j hj => by cases hj; exact Nat.le_refl _)
      have hz9 : TZ w9 role g T Y := H.out.bel (by rw [HRR.out]; exact b9)
      cases hs : T.l id with
      | none =>
        have hm := HM.out.2.1
        rw [hs] at hm
        simp at hm
      | some s =>
        have hm : Y.sb id = sb := by
          have hq := HM.out.2.1
          rw [hs] at hq
          simpa using hq
        obtain ⟨ho, i, hi, hr⟩ := HS.out id s hs
        obtain ⟨ib, hib, hz⟩ := hz9.inz hs hi
        obtain ⟨ti, qb, hip⟩ := hz.ip
        obtain ⟨ob, ib2, ha, ho1, _⟩ := (hz9.st id s hs).ex
        have hob : ob = none := ho1.1 ho
        subst hob
        rw [hm] at hib ha
        have HCR := Lib.hid ha.cr
        have HIP := Lib.hid hip
        have HZ9 := Lib.hid hz9
        have HB9 := Lib.hid b9
        have HSS := Lib.hid (⟨hs, hi, hr⟩ : T.l id = some s ∧ s.inn = some i ∧ i.reset = false)
        have c6 : w9.cell? ⟨sb, 6, none⟩ = some (.pointer (some ⟨ib, 0, none⟩)) := hib
        have hid : id ∈ T.ids := (hz9.ids.2.1 id).2 (by rw [hs]; simp)
        have HID := Lib.hid hid
        clear hib hz hip ha ho1 hz9 b9 hm hs ho hi hid
        by_cases hd : i.done = true
        · have HE := Lib.hid (iends_done HIP.out hd)
          unfold ptr at HE
          clear hd hr
          go_wp2_with (first
            | (go_at_call 32; refine HE.out.mono ?_; rintro x w10 ⟨rfl, B10⟩; have HB10 := Lib.hid B10; clear B10; have c5 : w10.cell? ⟨sb, 5, none⟩ = some (.pointer none) := (HCR.out.bel HB10.out).at_ 5)
            | (go_at_call 33; refine (oends_nil w10).mono ?_; rintro x w11 ⟨rfl, rfl⟩))
          have hlr := HM.out.2.2.2.1.bel HB10.out
          have HLR := Lib.hid hlr
          go_roundw
          case rel => exact ⟨_, cnt', c, rfl, HLR.out, HB9.out.trans (HB10.out.mono (Nat.le_trans HRW.out HM.out.2.2.2.2.2.1.size)), by have := HC.out; have := liveN_le (T := T) (left := left) (id := id); omega⟩
          case measure => rw [HLR.out.left_eq, HK.out.left_eq]; exact HM.out.2.2.2.2.1
        · have hd : i.done = false := by cases h : i.done <;> simp_all
          have HE := Lib.hid (iends_not HIP.out hd hr)
          have HLV := Lib.hid (liveN_drop (T := T) (left := left) HID.out HM.out.1 (by unfold liveB doneS; rw [HSS.out.1]; simp only [HSS.out.2.1, hd, Bool.not_false]))
          unfold ptr at HE
          obtain ⟨c1, hc1⟩ : ∃ c1, c + 1 = c1 := ⟨_, rfl⟩
          have n1 : (c : Int) + 1 = (c1 : Int) := by omega
          have n2 : IntKind.i64.wrap (c1 : Int) = (c1 : Int) := IntWalk.i64_in _ (by have := HN.out; have := HC.out; have := HLV.out; omega)
          have HC1 := Lib.hid hc1
          clear hd hr hc1
          go_wp2_with (first
            | (go_at_call 32; refine HE.out.mono ?_; rintro x w10 ⟨rfl, B10⟩; have HB10 := Lib.hid B10; clear B10)
            | (go_at_call 33; fail))
          have HLR := Lib.hid (HM.out.2.2.2.1.bel HB10.out)
          go_roundw
          case rel => exact ⟨_, cnt', c1, rfl, HLR.out, HB9.out.trans (HB10.out.mono (Nat.le_trans HRW.out HM.out.2.2.2.2.2.1.size)), by have := HC.out; have := HLV.out; have := HC1.out; omega⟩
          case measure => rw [HLR.out.left_eq, HK.out.left_eq]; exact HM.out.2.2.2.2.1
end
end Go.Proofs.Yteekafpkbdbadaa.Pi
