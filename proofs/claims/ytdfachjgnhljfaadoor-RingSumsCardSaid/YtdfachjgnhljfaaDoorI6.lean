/- law02.join: few parts, one behind the other. -/
import Derived.Test.YtdfachjgnhljfaaDoorI5
import Derived.Test.YtdfachjgnhljfaaDoorI2
import Derived.Test.YtdfachjgnhljfaaDoorM6
set_option maxRecDepth 100000
set_option linter.unusedVariables false
namespace Go.Proofs.YtdfachjgnhljfaaDoor
open Go.RowKit Go.Joins
/-- append onto the call's own: the result's row is the old one, or a new one -/
theorem L_append_at {P : Program} {w : World} {ops : Array Oper} {rest : List Oper} {o : Oper} {f : Act} {Q : Exit → Act → World → Prop} {t e : TypeId} {zero : Value} {bytes : Nat}
    (ty : STy P t e zero 1 bytes) {base : Nat} {a : Option Addr} {n c : Nat} {vs : List Value} (hs : OW w base e 1 a n c vs)
    {b : Option Addr} {m d : Nat} {us : List Value} (hx : RS w 1 b m d us) (s x : Operand) (hg : Region.wanted o (yielded ops f.tmps) = true)
    (hop : o.op = .call { callee := .builtin .append, args := #[s, x], argTypes := #[t, t] })
    (es : f.eval s = .slice a n c) (ex : f.eval x = .slice b m d) (hbytes : (n + m) * bytes ≤ 140737488355328) (h63 : n + m ≤ maxLen) (hbase : base ≤ w.heap.size)
    (h : ∀ a' c' w', OW w' base e 1 a' (n + m) c' (vs ++ us) → w.grownBy w' (a.map (·.block)) → (∀ ad, a' = some ad → a = some ad ∨ w.heap.size ≤ ad.block) → wpList P ops Q rest (f.put o.dst (.slice a' (n + m) c')) w') : wpList P ops Q (o :: rest) f w := by
  rcases hs.shape with ⟨rfl, rfl, rfl, rfl⟩ | ⟨g, cur, rfl, hb, hc, hcell, hmx, hsz, htk, hnc⟩
  · refine L_append ty (OW_nil w w.heap.size e 1) hx s x hg hop es ex hbytes h63 (Nat.le_refl _) fun a' c' w' o1 g1 => ?_
    exact h a' c' w' (o1.mono hbase) g1 (fun ad ha => Or.inr (o1.base_le ha).1)
  · obtain ⟨i, hi, hz0, hz1, hz2⟩ := info_parts ty.info
    refine wpList_on hg fun K hK => ?_
    cases b with
    | none =>
      obtain ⟨rfl, rfl, rfl⟩ := hx.nil_inv
      have hrun := run_append_owned_none (P := P) (w := w) base t o.type e i 1 ty.und hi (.slice (some ⟨g, 0, none⟩) n c) n vs hs.1
      unfold Oper.wp
      simp only [execOp, hop, resolve, invoke, builtin, Sem.run_bind, Sem.run_pure, Result.andThen_ok, List.map_toArray, List.map_cons, List.map_nil, es, ex, hrun]
      refine hK _ _ ?_
      have := h (some ⟨g, 0, none⟩) c w (by simpa using hs) (World.grownBy.refl w _) (fun ad ha => Or.inl ha)
      simpa using this
    | some bd =>
      have hvl : vs.length = n := by have := hs.len; omega
      have hul : us.length = m := by have := hx.len; omega
      have hone : ∀ v ∈ vs ++ us, v.oneCell' = true := by
        intro v hv; rcases List.mem_append.1 hv with hv | hv
        · exact hs.2 v hv
        · exact hx.one v hv
      by_cases hroom : n + m ≤ c
      · refine wp_append_own_spare w s x t hop base e i 1 ty.und hi hz1 g n c vs es hs.1 bd m d us ex (by omega) (hx.cells rfl) hx.one hroom fun w' h1 h2 => ?_
        exact hK _ _ (h _ _ w' ⟨h1, hone⟩ h2 (fun ad ha => Or.inl ha))
      · have hle := hs.rs.le
        have h63' : ((n + m : Nat) : Int) ≤ 9223372036854775807 := by unfold maxLen at h63; omega
        have hrun := run_append_grow (P := P) w t o.type e i zero ty.und hi hz0 ⟨g, 0, none⟩ n c vs (by rw [hz1]; exact hs.len) (by intro j v hv; exact hs.rs.cells rfl j v hv) bd m d us (by rw [hz1, hul, Nat.mul_one]) (hx.cells rfl) (by omega) h63' (growslice_fits (by omega) (by rw [hz2]; exact hbytes))
        have hge := grownCap_ge w (n + m) c e
        unfold Oper.wp
        simp only [execOp, hop, resolve, invoke, builtin, Sem.run_bind, Sem.run_pure, Result.andThen_ok, List.map_toArray, List.map_cons, List.map_nil, es, ex, hrun]
        refine hK _ _ (h _ _ _ (OW.mk' w.heap.size _ hbase (heap_alloc_new w.drew _) hge (grownCap_le_maxLen w (n + m) c e h63) ?_ ?_ hone) ⟨rfl, rfl, rfl, by simp, fun k hk _ => Below.heap_alloc w.drew _ k hk⟩ (fun ad ha => by cases ha; exact Or.inr (Nat.le_refl _)))
        · simp only [Array.size_append, List.size_toArray, size_zeroCells, hvl, hul, ty.zs]
          omega
        · simp only [Array.toList_append, List.append_assoc]
          rw [← List.append_assoc, show (n + m) * 1 = (vs ++ us).length by rw [List.length_append, hvl, hul, Nat.mul_one]]
          exact List.take_left
theorem OW.un {w : World} {b1 b2 : Nat} {e1 e2 : TypeId} {z1 z2 n1 n2 c1 c2 : Nat} {a1 a2 : Option Addr} {v1 v2 : List Value} (h1 : OW w b1 e1 z1 a1 n1 c1 v1) (h2 : OW w b2 e2 z2 a2 n2 c2 v2) (hne : e1 ≠ e2) :
    ∀ ad, a1 = some ad → some ad.block ≠ a2.map (·.block) := by
  intro ad h he
  rcases h1.shape with ⟨rfl, _⟩ | ⟨g, cur, rfl, _, _, hg, _⟩
  · cases h
  · cases h
    rcases h2.shape with ⟨rfl, _⟩ | ⟨g', cur', rfl, _, _, hg', _⟩
    · cases he
    · simp at he; subst he
      rw [hg] at hg'; injection hg' with hg'; injection hg' with _ ht; exact hne ht
/-- the parts that are taken -/
def qsOf (ps : List (List UInt8)) (i : Nat) : List (List UInt8) := (ps.take (min i 6)).map (·.take 200)
theorem qsOf_zero (ps : List (List UInt8)) : qsOf ps 0 = [] := by simp [qsOf]
theorem qsOf_lo (ps : List (List UInt8)) (i : Nat) (h : i < 6) (p : List UInt8) (hp : ps[i]? = some p) : qsOf ps (i + 1) = qsOf ps i ++ [p.take 200] := by
  unfold qsOf
  rw [Nat.min_eq_left (by omega), Nat.min_eq_left (by omega), List.take_add_one, hp]; simp
theorem qsOf_hi (ps : List (List UInt8)) (i : Nat) (h : 6 ≤ i) : qsOf ps i = qsOf ps 6 := by
  unfold qsOf; rw [Nat.min_eq_right (by omega)]; rfl
theorem qsOf_len (ps : List (List UInt8)) (i : Nat) (h : i ≤ ps.length) : (qsOf ps i).length = min i 6 := by
  unfold qsOf; rw [List.length_map, List.length_take]; omega
theorem qsOf_all (ps : List (List UInt8)) : qsOf ps ps.length = (ps.take 6).map (·.take 200) := by
  unfold qsOf
  rcases Nat.lt_or_ge ps.length 6 with h | h
  · rw [Nat.min_eq_left (by omega), List.take_of_length_le (Nat.le_refl _), List.take_of_length_le (by omega)]
  · rw [Nat.min_eq_right h]
theorem qsOf_again (ps : List (List UInt8)) : ((((ps.take 6).map (·.take 200)).take 6).map (·.take 200)) = (ps.take 6).map (·.take 200) := by
  rw [List.take_of_length_le (by rw [List.length_map, List.length_take]; omega), List.map_map]
  apply List.map_congr_left
  intro x _
  show (x.take 200).take 200 = _
  rw [List.take_take]; rfl
theorem take_min (l : List Value) (n : Nat) (h : l.length = n) : l.take (min n 200) = l.take 200 := by
  rcases Nat.le_total n 200 with h1 | h1
  · rw [Nat.min_eq_left h1, List.take_of_length_le (by omega), List.take_of_length_le (by omega)]
  · rw [Nat.min_eq_right h1]
theorem flat_le (qs : List (List UInt8)) (k : Nat) (h : ∀ q ∈ qs, q.length ≤ k) : qs.flatten.length ≤ k * qs.length := by
  induction qs with
  | nil => simp
  | cons q qs ih =>
    have h1 := h q (by simp)
    have h2 := ih (fun x hx => h x (by simp [hx]))
    rw [List.flatten_cons, List.length_append, List.length_cons, Nat.mul_succ]; omega
theorem qsOf_flat (ps : List (List UInt8)) (i : Nat) : (qsOf ps i).flatten.length ≤ 1200 := by
  have h := flat_le (qsOf ps i) 200 (by
    intro q hq
    unfold qsOf at hq
    obtain ⟨x, _, rfl⟩ := List.mem_map.1 hq
    rw [List.length_take]; omega)
  have h2 : (qsOf ps i).length ≤ 6 := by unfold qsOf; rw [List.length_map, List.length_take]; omega
  omega
/-- between two rounds -/
structure JR (w wr : World) (ps : List (List UInt8)) (i : Nat) (a : Option Addr) (m ca : Nat) (b : Option Addr) (k cb : Nat) (vs : List Value) : Prop where
  own : OW wr w.heap.size 22 1 a m ca vs
  len : (qsOf ps i).length = m
  each : ∀ (j : Nat) q, (qsOf ps i)[j]? = some q → ∃ a' m' c', vs[j]? = some (.slice a' m' c') ∧ OW wr w.heap.size 5 1 a' m' c' (q.map B) ∧ ∀ x y, a' = some x → b = some y → x.block ≠ y.block
  all : OW wr w.heap.size 5 1 b k cb ((qsOf ps i).flatten.map B)
  bel : Below w.heap.size w wr
theorem JR.next {w wr w1 w1' w2 w3 w4 : World} {ps : List (List UInt8)} {i : Nat} {a : Option Addr} {m ca : Nat} {b : Option Addr} {k cb : Nat} {vs : List Value} {p : List UInt8} (h : JR w wr ps i a m ca b k cb vs) (hi : i < 6) (hp : ps[i]? = some p)
    {a1 a2 a3 b4 : Option Addr} {k1 k3 c1 c2 c3 c4 : Nat} (o1 : OW w1 wr.heap.size 5 1 a1 k1 c1 ((p.take 200).map B)) (B1 : Below wr.heap.size wr w1) (hw1 : Below w1.heap.size w1 w1')
    (o2 : OW w2 w.heap.size 22 1 a2 (m + 1) c2 (vs ++ [.slice a1 k1 c1])) (g2 : w1'.grownBy w2 (a.map (·.block)))
    (o3 : OW w3 w2.heap.size 5 1 a3 k3 c3 ((p.take 200).map B)) (B3 : Below w2.heap.size w2 w3)
    (o4 : OW w4 w.heap.size 5 1 b4 (k + k3) c4 ((qsOf ps i).flatten.map B ++ (p.take 200).map B)) (g4 : w3.grownBy w4 (b.map (·.block))) (hb4 : ∀ ad, b4 = some ad → b = some ad ∨ w3.heap.size ≤ ad.block) :
    JR w w4 ps (i + 1) a2 (m + 1) c2 b4 (k + k3) c4 (vs ++ [.slice a1 k1 c1]) := by
  have hs := h.bel.size
  have hs1 := B1.size
  have hs1' := hw1.size
  have hs2 := g2.size
  have hs3 := B3.size
  have e22 : (22 : TypeId) ≠ 5 := by decide
  have bw1 : Below w.heap.size w w1' := (h.bel.trans (B1.mono hs)).trans (hw1.mono (by omega))
  have bw2 : Below w.heap.size w w2 := bw1.grown g2 (by omega) (row_ge (fun ad ha => (h.own.base_le ha).1) (Nat.le_refl _))
  have bw3 : Below w.heap.size w w3 := bw2.trans (B3.mono (by omega))
  have bw4 : Below w.heap.size w w4 := bw3.grown g4 (by omega) (row_ge (fun ad ha => (h.all.base_le ha).1) (Nat.le_refl _))
  have bwr1 : Below wr.heap.size wr w1' := B1.trans (hw1.mono hs1)
  have ha1 := h.own.below bwr1 (Nat.le_refl _)
  -- what an own row of bytes becomes
  have keep : ∀ {x : Option Addr} {y z : Nat} {q : List Value}, OW w1' w.heap.size 5 1 x y z q → (∀ u v, x = some u → b = some v → u.block ≠ v.block) → OW w4 w.heap.size 5 1 x y z q := by
    intro x y z q ho hn
    have h2 := ho.grown g2 (OW.un ho ha1 (Ne.symm e22))
    have h3 := h2.below B3 (Nat.le_refl _)
    exact h3.grown g4 (fun ad hx => by
      cases hb : b with
      | none => simp
      | some v => have := hn ad v hx hb; simp; omega)
  refine ⟨?_, by rw [qsOf_lo ps i hi p hp, List.length_append, h.len]; rfl, ?_, ?_, bw4⟩
  · have h3 := o2.below B3 (Nat.le_refl _)
    have hb3 : OW w3 w.heap.size 5 1 b k cb ((qsOf ps i).flatten.map B) := by
      have h1 := h.all.below bwr1 (Nat.le_refl _)
      exact (h1.grown g2 (OW.un h1 ha1 (Ne.symm e22))).below B3 (Nat.le_refl _)
    exact h3.grown g4 (OW.un h3 hb3 e22)
  · intro j q hq
    have hvl : vs.length = m := by have := h.own.len; omega
    rw [qsOf_lo ps i hi p hp] at hq
    rcases Nat.lt_or_ge j m with hlt | hge
    · rw [List.getElem?_append_left (by rw [h.len]; exact hlt)] at hq
      obtain ⟨a', m', c', h1, h2, h3⟩ := h.each j q hq
      refine ⟨a', m', c', by rw [List.getElem?_append_left (by omega)]; exact h1, keep (h2.below bwr1 (Nat.le_refl _)) h3, fun x y hx hy => ?_⟩
      rcases hb4 y hy with h5 | h5
      · exact h3 x y hx h5
      · have := (h2.base_le hx).2; omega
    · have hjm : j = m := by
        have := (List.getElem?_eq_some_iff.1 hq).1
        rw [List.length_append, h.len] at this; simp at this; omega
      subst hjm
      rw [List.getElem?_append_right (by rw [h.len]; exact Nat.le_refl _), h.len, Nat.sub_self] at hq
      cases hq
      have ho1 := (o1.below hw1 (Nat.le_refl _)).mono (base' := w.heap.size) hs
      refine ⟨a1, k1, c1, by rw [List.getElem?_append_right (by omega), hvl, Nat.sub_self]; rfl, keep ho1 ?_, fun x y hx hy => ?_⟩
      · intro u v hu hv
        have e1 := (o1.base_le hu).1
        have e2 := (h.all.base_le hv).2
        omega
      · have e1 := (o1.base_le hx)
        rcases hb4 y hy with h5 | h5
        · have e2 := (h.all.base_le h5).2; omega
        · omega
  · rw [qsOf_lo ps i hi p hp, List.flatten_append, List.map_append]
    simpa using o4
theorem JR.ps {w wr : World} {ps : List (List UInt8)} {i : Nat} {a : Option Addr} {m ca : Nat} {b : Option Addr} {k cb : Nat} {vs : List Value} (h : JR w wr ps i a m ca b k cb vs) : PS wr a m ca (qsOf ps i) :=
  ⟨vs, h.own.rs, h.len, fun j q hq => by obtain ⟨a', m', c', h1, h2, _⟩ := h.each j q hq; exact ⟨a', m', c', h1, h2.rs⟩⟩
theorem JR.flat_le {w wr : World} {ps : List (List UInt8)} {i : Nat} {a : Option Addr} {m ca : Nat} {b : Option Addr} {k cb : Nat} {vs : List Value} (h : JR w wr ps i a m ca b k cb vs) : k ≤ 1200 := by
  have := h.all.len
  rw [List.length_map] at this
  have := qsOf_flat ps i
  omega
set_option maxHeartbeats 2000000 in
theorem join_law (w : World) {a : Option Addr} {n c : Nat} (ps : List (List UInt8)) (h : PS w a n c ps) :
    Calls Tryd.prog 17 #[.slice a n c] w fun e w' => ∃ a1 m c1 a2 k c2, e = .returned (.tuple #[.slice a1 m c1, .slice a2 k c2]) ∧ PS w' a1 m c1 (qsOf ps n) ∧ BS w' a2 k c2 (qsOf ps n).flatten ∧ Below w.heap.size w w' := by
  obtain ⟨us, hu, hpl, hpp⟩ := h
  have hmx := RS.max hu
  have hle := RS.le hu
  unfold maxLen at hmx
  have Hpp := Lib.hid hpp
  have Hpl := Lib.hid hpl
  have hJ0 : JR w w ps 0 none 0 0 none 0 0 [] := ⟨OW_nil _ _ _ _, by rw [qsOf_zero]; rfl, (fun j q hq => by rw [qsOf_zero] at hq; cases hq), by rw [qsOf_zero]; exact OW_nil _ _ _ _, Below.refl _ _⟩
  clear hpp hpl
  go_enter Tryd.func17, Tryd.ntmps17
  go_wp2
  go_loopw [4, 5, 10] (fun s4 s5 s10 wr => ∃ (i : Nat) (a : Option Addr) (m ca : Nat) (b : Option Addr) (k cb : Nat) (vs : List Value), i ≤ n ∧ s10 = .int .i64 (i : Int) ∧ s4 = .slice a m ca ∧ s5 = .slice b k cb ∧ JR w wr ps i a m ca b k cb vs) (fun _ _ s10 _ => n - (intOf s10).toNat)
  case atStart => exact ⟨0, _, _, _, _, _, _, _, by omega, rfl, rfl, rfl, hJ0⟩
  case round =>
    obtain ⟨i, a1, m, ca, b, k, cb, vs, hi, rfl, rfl, rfl, hJ⟩ := hrel
    clear hJ0
    have hk12 := hJ.flat_le
    by_cases hlt : i < n
    · obtain ⟨p, hp⟩ : ∃ p, ps[i]? = some p := ⟨_, List.getElem?_eq_getElem (by rw [Hpl.out]; omega)⟩
      obtain ⟨a', m', c', hv, hb⟩ := Hpp.out i p hp
      have hur := RS.below hu hJ.bel (Nat.le_refl _)
      have hszr := hJ.bel.size
      have Hp := Lib.hid hp
      have HJ := Lib.hid hJ
      by_cases h6 : i < 6
      · have hbr := RS.below hb hJ.bel (Nat.le_refl _)
        have hpm := Lib.hid (BS.len hb)
        have hm6 : m ≤ 6 := by have := hJ.len; rw [qsOf_len ps i (by rw [Hpl.out]; exact hi)] at this; omega
        have hmc := RS.le hb
        have hmm := RS.max hb
        unfold maxLen at hmm
        have Hb := Lib.hid hb
        clear hp hJ hb
        go_upto_region 7 with (refine L_index tS hur _ _ rfl rfl _ _ rfl rfl (by omega) (by omega) _ (by simpa using hv) ?_; intro qq hqq)
        go_upto_region 8 with (first
          | (go_at_call 14; refine (cut_any _ hbr 200 (by omega) (by omega)).mono ?_; rintro e w1 ⟨a2, c2, rfl, hO1, B1⟩; have hs1 := B1.size; have ha1 := HJ.out.own.below B1 (Nat.le_refl _))
          | (at_builtin; refine L_append tS (ha1.alloc _) (RS_one _ _ _ rfl) _ _ rfl rfl rfl rfl (by omega) (by unfold maxLen; omega) (by simp; omega) ?_; intro a3 c3 w2 o2 g2; have hs2 := g2.size))
        have hO1' : OW w1 wr.heap.size 5 1 a2 (min m' 200) c2 ((p.take 200).map B) := by
          rw [List.map_take, ← take_min (p.map B) m' (by rw [List.length_map]; exact hpm.out)]; exact hO1
        have bwr2 : Below w.heap.size wr w2 := ((B1.mono hszr).alloc (by omega) _).grown g2 (by simp; omega) (row_ge (fun ad ha => (HJ.out.own.base_le ha).1) (Nat.le_refl _))
        have hp2 := RS.below Hb.out (HJ.out.bel.trans bwr2) (Nat.le_refl _)
        have hb2 : OW w2 w.heap.size 5 1 b k cb ((qsOf ps i).flatten.map B) := by
          have h1 := (HJ.out.all.below B1 (Nat.le_refl _)).alloc (.cells #[.slice a2 (min m' 200) c2] 22)
          exact h1.grown g2 (OW.un h1 (ha1.alloc _) (by decide))
        have hs2' : w.heap.size ≤ w2.heap.size := Nat.le_trans hszr bwr2.size
        clear hO1
        go_wp2_with (first
          | (go_at_call 14; refine (cut_any _ hp2 200 (by omega) (by omega)).mono ?_; rintro e w3 ⟨a4, c4, rfl, hO3, B3⟩; have hs3 := B3.size; have hb3 := hb2.below B3 (Nat.le_refl _))
          | (at_builtin; refine L_append_at tB hb3 hO3.rs _ _ rfl rfl rfl rfl (by omega) (by unfold maxLen; omega) (by omega) ?_; intro a5 c5 w4 o4 g4 ha5))
        have hO3' : OW w3 w2.heap.size 5 1 a4 (min m' 200) c4 ((p.take 200).map B) := by
          rw [List.map_take, ← take_min (p.map B) m' (by rw [List.length_map]; exact hpm.out)]; exact hO3
        have o4' : OW w4 w.heap.size 5 1 a5 (k + min m' 200) c5 ((qsOf ps i).flatten.map B ++ (p.take 200).map B) := by
          rw [List.map_take, ← take_min (p.map B) m' (by rw [List.length_map]; exact hpm.out)]; exact o4
        have hN := HJ.out.next h6 Hp.out hO1' B1 (below_alloc _ _) o2 g2 hO3' B3 o4' g4 ha5
        clear hO1' hO3' o4' o4 o2 g2 g4 ha5 hO3
        go_roundw
        case rel => exact ⟨i + 1, _, _, _, _, _, _, _, by omega, by go_num, rfl, rfl, hN⟩
        case measure => simp [intOf]; omega
      · have hN : JR w wr ps (i + 1) a1 m ca b k cb vs := by
          have e : qsOf ps (i + 1) = qsOf ps i := by rw [qsOf_hi ps i (by omega), qsOf_hi ps (i + 1) (by omega)]
          exact ⟨hJ.own, by rw [e]; exact hJ.len, by rw [e]; exact hJ.each, by rw [e]; exact hJ.all, hJ.bel⟩
        have HN := Lib.hid hN
        clear hN hJ hp
        go_wp2_with (refine L_index tS hur _ _ rfl rfl _ _ rfl rfl (by omega) (by omega) _ (by simpa using hv) ?_; intro qq hqq)
        go_roundw
        case rel => exact ⟨i + 1, _, _, _, _, _, _, _, by omega, by go_num, rfl, rfl, HN.out⟩
        case measure => simp [intOf]; omega
    · obtain rfl : i = n := by omega
      have HJ := Lib.hid hJ
      clear hJ
      go_wp2
      go_ret2
      exact ⟨_, _, _, _, _, _, rfl, HJ.out.ps, HJ.out.all.rs, HJ.out.bel⟩
end Go.Proofs.YtdfachjgnhljfaaDoor
