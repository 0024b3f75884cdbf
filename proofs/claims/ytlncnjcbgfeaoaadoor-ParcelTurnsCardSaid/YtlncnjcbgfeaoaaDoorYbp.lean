/- texts EE EF EG in one. -/
import Derived.Test.YtlncnjcbgfeaoaaDoorYbf
import Derived.Test.YtlncnjcbgfeaoaaDoorYaj
import Derived.Test.YtlncnjcbgfeaoaaDoorYbq

/- parcel.Close, for any head that head.Bytes writes. -/
set_option maxRecDepth 100000
set_option linter.unusedVariables false
namespace Go.Proofs.YtlncnjcbgfeaoaaDoor
open Go.RowKit
/-- a packet closed: the head's bytes H, behind them what is sealed, both masked -/
structure CPR (ka kb kc H plain : List UInt8) (S pn : Nat) (nn cl m R : List UInt8) : Prop where
  non : NON kb pn nn
  hc : CL ka nn plain H cl
  mm : MSK kc (((H ++ cl).drop (H.length - S + 4)).take 16) m
  hq : unS (H ++ cl) m (H.length - S) S = R
theorem CPR_ex (ka kb kc H plain : List UInt8) (S pn : Nat) : ∃ nn cl m R, CPR ka kb kc H plain S pn nn cl m R := by
  obtain ⟨nn, hn⟩ := NON_ex kb pn
  obtain ⟨cl, hc⟩ := CL_ex ka nn plain H
  obtain ⟨m, hm⟩ := MSK_ex kc (((H ++ cl).drop (H.length - S + 4)).take 16)
  exact ⟨nn, cl, m, _, hn, hc, hm, rfl⟩
theorem CPR.len {ka kb kc H plain nn cl m R : List UInt8} {S pn : Nat} (h : CPR ka kb kc H plain S pn nn cl m R) : R.length = H.length + plain.length + 16 := by
  rw [← h.hq, unS, unJ_len, List.length_set, List.length_append, h.hc.len]; omega
theorem JW.below' {w w' : World} {base : Nat} {e : TypeId} {a : Option Addr} {n c : Nat} {vs : List Value} (h : JW w base e a n c vs) (hb : Below w.heap.size w w') : JW w' base e a n c vs :=
  h.keepb fun ad _ hl => hb.block _ hl
section
variable {P : Program} {w : World} {ops : Array Oper} {o : Oper} {f : Act} {K : Act → World → Prop} {Q : Exit → Act → World → Prop} {E : Prop} {t e : TypeId} {zero : Value} {z bytes : Nat}
/-- append of a slice as a step of a region that draws its order: onto a row of the call's own, or one without spare room -/
theorem S_append_J (ty : STy P t e zero 1 bytes) {base : Nat} {a : Option Addr} {n c : Nat} {vs : List Value} (hs : JW w base e a n c vs)
    {b : Option Addr} {m d : Nat} {us : List Value} (hx : RS w 1 b m d us) (hm : 0 < m) (s x : Operand) (hg : Region.wanted o (yielded ops f.tmps) = true)
    (hop : o.op = .call { callee := .builtin .append, args := #[s, x], argTypes := #[t, t] })
    (es : f.eval s = .slice a n c) (ex : f.eval x = .slice b m d) (hbytes : (n + m) * bytes ≤ 140737488355328) (h63 : n + m ≤ maxLen) (hbase : base ≤ w.heap.size)
    (h : ∀ a' c' w', OW w' base e 1 a' (n + m) c' (vs ++ us) → w.grownBy w' (a.map (·.block)) → K (f.put o.dst (.slice a' (n + m) c')) w') : if Region.wanted o (yielded ops f.tmps) = true then Oper.wp P o f w K Q else E := by
  rw [if_pos hg]
  obtain ⟨i, hi, hz0, hz1, hz2⟩ := info_parts ty.info
  have hone : ∀ v ∈ vs ++ us, v.oneCell' = true := by
    intro v hv; rcases List.mem_append.1 hv with hv | hv
    · exact hs.rs.one v hv
    · exact hx.one v hv
  have hrow : Value.ownBlock (.slice a n c) = a.map (·.block) := by cases a <;> rfl
  cases b with
  | none => have := hx.nil_inv; omega
  | some bd =>
    have howned : ∀ hs' : OW w base e 1 a n c vs, Oper.wp P o f w K Q := fun hs' =>
      wp_append_own w s x t hop base e i zero 1 bytes ty.und hi hz0 hz1 hz2 ty.zs ty.zpos (.slice a n c) n vs es hs'.1 bd m d us ex hx.len (hx.cells rfl) hx.one h63 hbytes hbase fun v' w' h1 h2 _ => by
        rw [hrow] at h2
        rcases h1.2 with ⟨rfl, h3⟩ | ⟨g, cap, cur, rfl, _⟩
        · have := h none 0 w' ⟨by rw [h3] at h1 ⊢; exact h1, hone⟩ h2
          rw [h3] at this; exact this
        · exact h _ _ w' ⟨h1, hone⟩ h2
    rcases hs with hs | ⟨h1, rfl, h2⟩
    · exact howned hs
    · cases a with
      | none =>
        obtain ⟨rfl, _, rfl⟩ := h1.nil_inv
        exact howned (OW_nil w base e 1)
      | some ad =>
        have hz1' := hz1
        have h63' : ((n + m : Nat) : Int) ≤ 9223372036854775807 := by unfold maxLen at h63; omega
        have hrun := run_append_grow (P := P) w t o.type e i zero ty.und hi hz0 ad n n vs (by rw [hz1]; exact h1.len) (h1.cells rfl) bd m d us (by rw [hz1]; exact hx.len) (hx.cells rfl) (by omega) h63' (growslice_fits (by omega) (by rw [hz2]; exact hbytes))
        unfold Oper.wp
        simp only [execOp, hop, resolve, invoke, builtin, Sem.run_bind, Sem.run_pure, Result.andThen_ok, List.map_toArray, List.map_cons, List.map_nil, es, ex, hrun]
        have hge := grownCap_ge w (n + m) n e
        refine h _ _ _ (OW.mk' w.heap.size _ hbase (heap_alloc_new w.drew _) hge (grownCap_le_maxLen w (n + m) n e h63) ?_ ?_ hone) ⟨rfl, rfl, rfl, by simp, fun k hk _ => Below.heap_alloc w.drew _ k hk⟩
        · simp only [Array.size_append, List.size_toArray, size_zeroCells, h1.len, hx.len, ty.zs, Nat.mul_one]
          omega
        · simp only [Array.toList_append, List.append_assoc]
          rw [← List.append_assoc, show (n + m) * 1 = (vs ++ us).length by rw [List.length_append, h1.len, hx.len]; omega]
          exact List.take_left
end
/-- what head.Bytes hands back -/
def HBy (w : World) (hv : Value) (pn S L : Nat) (H : List UInt8) : Prop :=
  Calls Tryd.prog 45 #[hv, .int .u64 (pn : Int), .int .i64 (S : Int), .int .i64 (L : Int)] w fun e w' => ∃ a' c', e = .returned (.tuple #[.slice a' H.length c', .int .i64 0]) ∧ JW w' w.heap.size 5 a' H.length c' (H.map B) ∧ Below w.heap.size w w'
set_option maxHeartbeats 8000000 in
theorem pclose_any (w : World) {a : Option Addr} {n c S pn : Nat} {ka kb kc plain H nn cl m R : List UInt8} {l : Bool} {lv : Int} {ph : Bool} {ta fa : Option Addr} {tn tc fn fc : Nat} (hal : ka.length = 32) (hbl : kb.length = 12) (hcl : kc.length = 32) (hp : BS w a n c plain) (hn : n ≤ 65536) (hpn : pn < 4611686018427387904) (h1 : 1 ≤ S) (h4 : S ≤ 4) (hs4 : 4 ≤ n + S) (hHl : S + 1 ≤ H.length) (hHu : H.length ≤ 1000)
    (hB : ∀ w', Below w.heap.size w w' → HBy w' (.agg #[.bool l, .int .i64 lv, .bool ph, .slice ta tn tc, .slice fa fn fc]) pn S (n + 16) H) (hD : CPR ka kb kc H plain S pn nn cl m R) :
    Calls Tryd.prog 25 #[.agg ((ka ++ kb ++ kc).map B).toArray, .agg #[.bool l, .int .i64 lv, .bool ph, .slice ta tn tc, .slice fa fn fc], .int .u64 (pn : Int), .int .i64 (S : Int), .slice a n c] w fun x w' => ∃ a' c', x = .returned (.tuple #[.slice a' R.length c', .int .i64 0]) ∧ OW w' w.heap.size 5 1 a' R.length c' (R.map B) ∧ Below w.heap.size w w' := by
  have hpl := BS.len hp
  have hRl := hD.len
  have hcll := hD.hc.len
  have hml := hD.mm.len
  have hnl : nn.length = 12 := hD.non.len.trans hbl
  obtain ⟨D, hDe⟩ : ∃ D, ka ++ kb ++ kc = D := ⟨_, rfl⟩
  have hDl : D.length = 76 := by rw [← hDe, List.length_append, List.length_append, hal, hbl, hcl]
  have Hnon := Lib.hid (fun w' => nonce_any w' (a := ka) (b := kb) (c := kc) hal hbl pn (by omega) hD.non)
  rw [hDe] at Hnon ⊢
  obtain ⟨o1, ho1⟩ : ∃ o1 : Obj, o1 = .cells #[.bool l, .int .i64 lv, .bool ph, .slice ta tn tc, .slice fa fn fc] 43 := ⟨_, rfl⟩
  have hz1 : (w.alloc (.cells (D.map B).toArray 35)).heap.size = w.heap.size + 1 := by simp
  have hA := (AB_box w 35 D).al o1
  have hH : HB ((w.alloc (.cells (D.map B).toArray 35)).alloc o1) (w.heap.size + 1) l lv ph (.slice ta tn tc) (.slice fa fn fc) := by
    rw [ho1, ← hz1]; exact heap_alloc_new _ _
  have hbl' : Below w.heap.size w _ := (below_alloc w (.cells (D.map B).toArray 35)).alloc (by simp) o1
  have hp1 := (RS.alloc hp (.cells (D.map B).toArray 35)).alloc o1
  rw [ho1] at hA hH hbl' hp1
  have hsa := Lib.hid (show (Tryd.prog.info? 22).map (·.size) = some (ka.map B).length by rw [List.length_map, hal]; kernel_rfl)
  have hsc := Lib.hid (show (Tryd.prog.info? 22).map (·.size) = some (kc.map B).length by rw [List.length_map, hcl]; kernel_rfl)
  have hsD := Lib.hid (show (Tryd.prog.info? 35).map (·.size) = some (D.map B).length by rw [List.length_map, hDl]; exact k76)
  have Hpr := Lib.hid (fun (w' : World) (h : w'.rangeAt w.heap.size 0 (D.map B)) => rng_parts (a := ka) (b := kb) (c := kc) (by rw [hDe]; exact h) hal hbl)
  have HD := Lib.hid hD
  obtain ⟨h, hh⟩ : ∃ h, H.length = h := ⟨_, rfl⟩
  obtain ⟨L, hL⟩ : ∃ L, n + 16 = L := ⟨_, rfl⟩
  have hLi : (n : Int) + 16 = (L : Int) := by omega
  have hns : ¬ ((n : Int) + (S : Int) < 4) := by omega
  rw [hh] at hRl hHl hHu
  rw [hL] at hB
  clear hz1 ho1 hDe hD
  go_enter Tryd.func25, Tryd.ntmps25
  go_upto_region 1 with (fail)
  generalize (World.alloc _ _) = W1 at *
  have l0 := hA.lt
  have l1 := hH.lt
  have hbs := hbl'.size
  have hby := hB W1 hbl'
  unfold HBy at hby
  rw [hh] at hby
  have Hby := Lib.hid hby
  have HA := Lib.hid hA
  have HB1 := Lib.hid hbl'
  have HP := Lib.hid hp1
  have c0 := hH.cells
  clear hA hH hbl' hp1 hp hB hby
  obtain ⟨t, ht⟩ : ∃ t, h - S = t := ⟨_, rfl⟩
  have hti : (h : Int) - (S : Int) = (t : Int) := by omega
  go_upto_region 9 with (go_at_call 45; refine Hby.out.mono ?_; rintro x w2 ⟨a2, c2, rfl, j2, B2⟩)
  have z2 := B2.size
  have hA2 := HA.out.bl B2 l0
  have rD : w2.drew.rangeAt w.heap.size 0 (D.map B) := hA2.rng
  have lD : w.heap.size < w2.heap.size := hA2.lt
  have hu32 := Tryd.underlying22
  have hu76 := Tryd.underlying35
  have hsa' := hsa.out
  have hsD' := hsD.out
  have HJ2 := Lib.hid (show JW w2.drew W1.heap.size 5 a2 h c2 (H.map B) from j2)
  have HP2 := Lib.hid (RS.drew (RS.below HP.out B2 (Nat.le_refl _)))
  have HB2 := Lib.hid (HB1.out.trans (B2.mono hbs)).drew
  have HCL := Lib.hid HD.out.hc
  obtain ⟨r, hr⟩ : ∃ r, cl.length = r := ⟨_, rfl⟩
  have hrn : r = n + 16 := by omega
  clear j2 B2 hA2 HA HB1 HP Hby c0
  refine wp_region_held_drew (S := fun w' => w'.rangeAt w.heap.size 0 (D.map B)) (by kernel_rfl) rD (fun hHeld => ?_)
  refine wpAnyH_take (i := 0) (v := .slice a2 h c2) rfl (by kernel_rfl) (by kernel_rfl) (by kernel_rfl) (fun _ _ _ h => h) (Or.inl ⟨by rfl, fun w h => by go_simp⟩) hHeld ?_
  try simp only [Act.put, List.getElem_toArray, List.getElem_cons_zero, List.setIfInBounds_toArray, List.set_cons_zero, List.set_cons_succ]
  refine wpAnyH_take (i := 1) (v := .pointer (some ⟨w.heap.size, 0, none⟩)) rfl (by kernel_rfl) (by kernel_rfl) (by kernel_rfl) (fun _ _ _ h => h) (Or.inl ⟨by rfl, fun w h => by go_simp⟩) hHeld ?_
  try simp only [Act.put, List.getElem_toArray, List.getElem_cons_succ, List.getElem_cons_zero, List.setIfInBounds_toArray, List.set_cons_zero, List.set_cons_succ]
  refine wpAnyH_take (i := 2) rfl (by kernel_rfl) (by kernel_rfl) (by kernel_rfl) (fun _ _ _ h => h) (yieldsIf_load_mid (by rfl) _ _ rfl _ _ rfl _ _ (fun w' h => (Hpr.out w' h).1) hu32 rfl hsa') hHeld ?_
  try simp only [Act.put, List.getElem_toArray, List.getElem_cons_succ, List.getElem_cons_zero, List.setIfInBounds_toArray, List.set_cons_zero, List.set_cons_succ]
  refine wpAnyH_take (i := 3) rfl (by kernel_rfl) (by kernel_rfl) (by kernel_rfl) (fun _ _ _ h => h) (yieldsIf_load_mid (by rfl) _ _ rfl _ _ rfl _ _ (fun w' h => h) hu76 rfl hsD') hHeld ?_
  try simp only [Act.put, List.getElem_toArray, List.getElem_cons_succ, List.getElem_cons_zero, List.setIfInBounds_toArray, List.set_cons_zero, List.set_cons_succ]
  refine wpAnyH_take (i := 4) (v := .int .u64 (pn : Int)) rfl (by kernel_rfl) (by kernel_rfl) (by kernel_rfl) (fun _ _ _ h => h) (Or.inl ⟨by rfl, fun w h => by go_simp⟩) hHeld ?_
  try simp only [Act.put, List.getElem_toArray, List.getElem_cons_succ, List.getElem_cons_zero, List.setIfInBounds_toArray, List.set_cons_zero, List.set_cons_succ]
  refine wpAnyH_take (i := 6) (v := .slice a n c) rfl (by kernel_rfl) (by kernel_rfl) (by kernel_rfl) (fun _ _ _ h => h) (Or.inl ⟨by rfl, fun w h => by go_simp⟩) hHeld ?_
  try simp only [Act.put, List.getElem_toArray, List.getElem_cons_succ, List.getElem_cons_zero, List.setIfInBounds_toArray, List.set_cons_zero, List.set_cons_succ]
  refine wpAnyH_take (i := 7) (v := .slice a2 h c2) rfl (by kernel_rfl) (by kernel_rfl) (by kernel_rfl) (fun _ _ _ h => h) (Or.inl ⟨by rfl, fun w h => by go_simp⟩) hHeld ?_
  try simp only [Act.put, List.getElem_toArray, List.getElem_cons_succ, List.getElem_cons_zero, List.setIfInBounds_toArray, List.set_cons_zero, List.set_cons_succ]
  refine wpAnyH_ready (rs := [5]) (by kernel_rfl) (by simp) (AllReadyH.cons rfl (fun K hK => ?_) AllReadyH.nil)
  go_simp
  go_at_call 36
  refine (Hnon.out _).mono ?_
  rintro x w3 ⟨rfl, B3⟩
  have b3 : Below w2.drew.heap.size w2.drew w3 := B3
  have j3 := HJ2.out.below' b3
  have Hcl := Lib.hid (close_any w3 hal hnl (RS.below HP2.out b3 (Nat.le_refl _)) j3.rs (by omega) HCL.out)
  have HJ3 := Lib.hid j3
  refine hK.out _ _ (rng_bel rD b3 lD) (fun hHeld => ?_)
  clear hK K j3
  try simp only [Act.put, List.getElem_toArray, List.getElem_cons_succ, List.getElem_cons_zero, List.setIfInBounds_toArray, List.set_cons_zero, List.set_cons_succ]
  refine wpAnyH_ready (rs := [8]) (by kernel_rfl) (by simp) (AllReadyH.cons rfl (fun K hK => ?_) AllReadyH.nil)
  go_simp
  go_at_call 46
  refine Hcl.out.mono ?_
  rintro x w4 ⟨a4, c4, rfl, o4, B4⟩
  have b4 := btr b3 B4
  have j4 := HJ3.out.below' B4
  have hz24 : W1.heap.size ≤ w4.heap.size := Nat.le_trans z2 b4.size
  refine hK.out _ _ (rng_bel rD b4 lD) (fun hHeld => ?_)
  clear hK K Hcl
  try simp only [Act.put, List.getElem_toArray, List.getElem_cons_succ, List.getElem_cons_zero, List.setIfInBounds_toArray, List.set_cons_zero, List.set_cons_succ]
  refine wpAnyH_ready (rs := [9]) (by kernel_rfl) (by simp) (AllReadyH.cons rfl (fun K hK => ?_) AllReadyH.nil)
  refine S_append_J tB j4 o4.rs (by omega) _ _ rfl rfl rfl rfl (by omega) (by unfold maxLen; omega) hz24 ?_
  intro a5 c5 w5 o5 g5
  have hb4 := HB2.out.trans (b4.mono HB2.out.size)
  have hb5 := hb4.grown g5 hb4.size (row_le (fun ad ha => Nat.le_trans hbs (j4.base_le ad ha)) (Nat.le_refl _))
  rw [← List.map_append] at o5
  refine hK.out _ _ ?_ (fun hHeld => ?_)
  · exact fun j v hv => (World.cell?_of_block (a := ⟨w.heap.size, 0 + j, none⟩) (g5.block _ (Nat.lt_of_lt_of_le lD b4.size) (fun he => by
      obtain ⟨ad, h1, h2⟩ := Option.map_eq_some_iff.1 he.symm
      have := j4.base_le ad h1; simp at h2; omega))).trans (rng_bel rD b4 lD j v hv)
  clear hK K
  try simp only [Act.put, List.getElem_toArray, List.getElem_cons_succ, List.getElem_cons_zero, List.setIfInBounds_toArray, List.set_cons_zero, List.set_cons_succ]
  refine wpAnyH_take (i := 10) (v := .slice a5 (h + (n + 16)) c5) rfl (by kernel_rfl) (by kernel_rfl) (by kernel_rfl) (fun _ _ _ h => h) (Or.inl ⟨by rfl, fun w h => by go_simp⟩) hHeld ?_
  try simp only [Act.put, List.getElem_toArray, List.getElem_cons_succ, List.getElem_cons_zero, List.setIfInBounds_toArray, List.set_cons_zero, List.set_cons_succ]
  refine wpAnyH_done (by kernel_rfl) ?_ _
  try simp only [Act.put, List.getElem_toArray, List.getElem_cons_succ, List.getElem_cons_zero]
  obtain ⟨e, he⟩ : ∃ e, h + (n + 16) = e := ⟨_, rfl⟩
  rw [he] at o5 ⊢
  have hRe : R.length = e := by omega
  obtain ⟨PP, hPP⟩ : ∃ PP, H ++ cl = PP := ⟨_, rfl⟩
  have hmm := HD.out.mm
  have hqq := HD.out.hq
  rw [hPP] at o5 hmm hqq
  rw [hh, ht] at hmm hqq
  have hPl : PP.length = e := by rw [← hPP, List.length_append, hh, hr]; omega
  have hte : t + 20 ≤ e := by omega
  have hz5 := hb5.size
  have rD5 : w5.rangeAt w.heap.size 0 (D.map B) := hHeld
  have rK5 := (Hpr.out w5 rD5).2.2
  have lw5 : w.heap.size < w5.heap.size := Nat.lt_of_lt_of_le (Nat.lt_of_lt_of_le lD b4.size) g5.size
  have Hmk := Lib.hid (pmask_any w5 hcl o5.rs hte hmm)
  have HO5 := Lib.hid o5
  have HB5 := Lib.hid hb5
  have hsc' := hsc.out
  have hW15 : W1.heap.size ≤ w5.heap.size := Nat.le_trans hz24 g5.size
  have Hmm := Lib.hid hmm
  clear hHeld b3 b4 hb4 B3 B4 o4 j4 g5 o5 hb5 hmm HJ2 HJ3 HP2 HB2 HCL rD rD5 Hnon
  go_upto_region 11 with (first
    | (refine wpList_load_mid rfl _ _ rfl _ _ rfl (kc.map B) _ rK5 hu32 rfl hsc' ?_)
    | (go_at_call 47; refine Hmk.out.mono ?_; rintro x w7 ⟨rfl, B7⟩)
    | (refine L_storeAB rfl _ _ _ rfl rfl rfl (show AB (w7.alloc _) w7.heap.size 84 z5 from heap_alloc_new w7 _) i5 (by simp [z5]) hml ?_; intro w6 hm6 hg6))
  have z7s := B7.size
  have b6 : Below w5.heap.size w5 w6 := (B7.alloc z7s _).grown hg6 (by simp; omega) (fun k hk => by cases hk; exact z7s)
  obtain ⟨gm, hgm⟩ : ∃ gm, w7.heap.size = gm := ⟨_, rfl⟩
  rw [hgm] at hm6 z7s ⊢
  have lgm := hm6.lt
  have o6 := HO5.out.below b6 (Nat.le_refl _)
  obtain ⟨g4, rfl, lg4, lg5⟩ : ∃ g, a5 = some ⟨g, 0, none⟩ ∧ W1.heap.size ≤ g ∧ g < gm := by
    rcases HO5.out.shape with ⟨_, h, _⟩ | ⟨g, cur, h1, h2, h3, _⟩
    · omega
    · exact ⟨g, h1, h2, by omega⟩
  obtain ⟨b0, hP0⟩ : ∃ b0, PP[0]? = some b0 := ⟨_, List.getElem?_eq_getElem (by omega)⟩
  obtain ⟨m0, hm0⟩ : ∃ m0, m[0]? = some m0 := ⟨_, List.getElem?_eq_getElem (by omega)⟩
  have hmd : m.getD 0 0 = m0 := by rw [List.getD_eq_getElem?_getD, hm0]; rfl
  have hPd : PP.getD 0 0 = b0 := by rw [List.getD_eq_getElem?_getD, hP0]; rfl
  unfold unS at hqq
  rw [hPd, hmd] at hqq
  have hfa := fst_and b0 m0
  have hbl0 := b0.toNat_lt
  have hml0 := m0.toNat_lt
  have hz8 := (fstS b0 m0).toNat_lt
  have o7 := o6.setCell 0 (B (fstS b0 m0)) rfl
  rw [← List.map_set] at o7
  have q0 : w6.cell? ⟨g4, 0, none⟩ = some (.int .u8 (b0.toNat : Int)) := o6.cell 0 (B b0) (by rw [List.getElem?_map, hP0]; rfl)
  have f0 := o6.frozen 0
  have q1 : w6.cell? ⟨gm, 0, none⟩ = some (.int .u8 (m0.toNat : Int)) := hm6.cell 0 m0 hm0
  have hbt := bitsN_lt b0.toNat
  have Hbits := Lib.hid (fun w => bits_any w b0.toNat hbl0)
  obtain ⟨K, hKK⟩ : ∃ K, bitsN b0.toNat = K := ⟨_, rfl⟩
  rw [hKK] at hfa hbt Hbits
  have hand := u8_and_nat m0.toNat K hml0 hbt
  obtain ⟨r', hr'⟩ : ∃ r', m0.toNat &&& K = r' := ⟨_, rfl⟩
  rw [hr'] at hfa hand
  have hrl : r' < 256 := by rw [← hr']; exact Nat.lt_of_le_of_lt Nat.and_le_left hml0
  have hxor := u8_xor_nat b0.toNat r' hbl0 hrl
  obtain ⟨z, hz⟩ : ∃ z, (fstS b0 m0).toNat = z := ⟨_, rfl⟩
  have hv : B (fstS b0 m0) = .int .u8 (z : Int) := by unfold B; rw [hz]
  rw [← hfa, hz] at hxor
  obtain ⟨Q1, hQ1⟩ : ∃ Q1, PP.set 0 (fstS b0 m0) = Q1 := ⟨_, rfl⟩
  rw [hQ1] at hqq o7
  rw [hv] at o7
  have g7 : w6.grownBy (w6.setCell ⟨g4, 0, none⟩ (.int .u8 (z : Int))) (some g4) := grownBy_setCell _ _ _
  have HO7 := Lib.hid o7.drew
  have HG7 := Lib.hid (grown_drew g7)
  have Hm6 := Lib.hid hm6
  have HB6 := Lib.hid (HB5.out.trans (b6.mono hz5))
  have Hqq : EB (unJ Q1 m t S) R := ⟨hqq⟩
  have hQ1l : Q1.length = e := by rw [← hQ1, List.length_set]; exact hPl
  have he0 : 0 < e := by omega
  clear o6 b6 hP0 hm0 hmd hPd hqq hfa hKK hr' hz hv hQ1 o7 g7 hm6 hg6 B7 hgm HO5 HB5 Hmk rK5 hPP
  go_still_tail 12, (by kernel_rfl)
  still_call ((Hbits.out _).mono (fun e w' h => ⟨h.1, h.2.symm⟩))
  repeat still_step
  refine wpStill_nil ?_
  change wpList _ _ _ _ _ w6.drew
  go_upto_region 12 with (fail)
  have hm7 : AB (w6.setCell ⟨g4, 0, none⟩ (.int .u8 (z : Int))).drew gm 84 m := Hm6.out.grown HG7.out (by simp; omega)
  have Hm7 := Lib.hid hm7
  clear hm7 Hm6 q0 q1 f0 hxor hand Hbits
  generalize (World.setCell _ _ _).drew = W7 at *
  have ho7 : OW W7 W1.heap.size 5 1 (some ⟨g4, 0, none⟩) e c5 ((unJ Q1 m t 0).map B) := HO7.out
  go_wp2
  go_loopw [79] (fun s79 wr => ∃ i : Nat, i ≤ S ∧ s79 = .int .i64 (i : Int) ∧ OW wr W1.heap.size 5 1 (some ⟨g4, 0, none⟩) e c5 ((unJ Q1 m t i).map B) ∧ W7.grownBy wr (some g4)) (fun s79 _ => S - (intOf s79).toNat)
  case atStart => exact ⟨0, by omega, rfl, ho7, World.grownBy.refl W7 _⟩
  case round =>
    obtain ⟨i, hi, rfl, hO, hG⟩ := hrel
    clear ho7
    by_cases hlt : i < S
    · obtain ⟨u, hu⟩ : ∃ u, t + i = u := ⟨_, rfl⟩
      have hui : (t : Int) + (i : Int) = (u : Int) := by omega
      have hue : u < e := by omega
      obtain ⟨x, hx⟩ : ∃ x, (unJ Q1 m t i)[u]? = some x := ⟨_, List.getElem?_eq_getElem (by rw [unJ_len]; omega)⟩
      obtain ⟨y, hy⟩ : ∃ y, m[1 + i]? = some y := ⟨_, List.getElem?_eq_getElem (by omega)⟩
      have hxl := x.toNat_lt
      have hyl := y.toNat_lt
      have q0 : wr.cell? ⟨g4, u, none⟩ = some (.int .u8 (x.toNat : Int)) := hO.cell u (B x) (by rw [List.getElem?_map, hx]; rfl)
      have f0 := hO.frozen u
      obtain ⟨v, hvv⟩ : ∃ v, 1 + i = v := ⟨_, rfl⟩
      have hvi : 1 + (i : Int) = (v : Int) := by omega
      have hv5 : v < 5 := by omega
      have q1 : wr.cell? ⟨gm, v, none⟩ = some (.int .u8 (y.toNat : Int)) := (Hm7.out.grown hG (by simp; omega)).cell v y (by rw [← hvv]; exact hy)
      have hxor := u8_xor_nat x.toNat y.toNat hxl hyl
      have hv : B (x ^^^ y) = .int .u8 ((x.toNat ^^^ y.toNat : Nat) : Int) := by simp [B]
      have hset : (unJ Q1 m t i).set u (x ^^^ y) = unJ Q1 m t (i + 1) := by
        rw [unJ, hu, List.getD_eq_getElem?_getD, hx, List.getD_eq_getElem?_getD, hy]; rfl
      have hO6 := hO.setCell u (B (x ^^^ y)) rfl
      rw [← List.map_set, hset, hv] at hO6
      have hG6 := grown_set hG u (B (x ^^^ y))
      rw [hv] at hG6
      have HO6 := Lib.hid (OW.drew hO6)
      have HG6 := Lib.hid (grown_drew hG6)
      obtain ⟨z', hz'⟩ : ∃ z', x.toNat ^^^ y.toNat = z' := ⟨_, rfl⟩
      rw [hz'] at hxor HO6 HG6
      clear hu hx hy hset hO hG hv hO6 hG6 hz' hvv
      go_upto_region 15 with (fail)
      go_region
      clear q0 q1 f0 hxor
      generalize World.drew _ = W8 at *
      go_wp2
      go_roundw
      case rel => exact ⟨i + 1, by omega, by go_num, HO6.out, HG6.out⟩
      case measure => simp [intOf]; omega
    · obtain rfl : i = S := by omega
      rw [Hqq.h] at hO
      have hb9 := HB6.out.grown (grown_trans HG7.out hG) HB6.out.size (fun k hk => by cases hk; omega)
      have HO := Lib.hid hO
      have HB9 := Lib.hid hb9
      clear hO hG hb9
      go_wp2
      go_ret2
      rw [hRe]
      exact ⟨_, _, rfl, HO.out.mono hbs, HB9.out⟩
end Go.Proofs.YtlncnjcbgfeaoaaDoor

/- what is closed is opened, in plain Lean. -/
set_option maxRecDepth 100000
set_option linter.unusedVariables false
namespace Go.Proofs.YtlncnjcbgfeaoaaDoor
open Go.RowKit
theorem mixS_twice' (key nonce p : List UInt8) : mixS key nonce (mixS key nonce p) = p := by
  have hl := mixS_len key nonce p
  apply List.ext_getElem?
  intro i
  rcases Nat.lt_or_ge i p.length with hi | hi
  · have h1 : (mixS key nonce p)[i]? = some (p.getD i 0 ^^^ (strS key nonce 1 ((p.length + 63) / 64)).getD i 0) := by
      unfold mixS
      rw [mixJ_get _ _ _ _ hi, if_pos hi]
    have h2 : (mixS key nonce (mixS key nonce p))[i]? = some ((mixS key nonce p).getD i 0 ^^^ (strS key nonce 1 ((p.length + 63) / 64)).getD i 0) := by
      rw [mixS.eq_1 key nonce (mixS key nonce p), mixJ_get _ _ _ _ (by rw [hl]; exact hi), if_pos (by rw [hl]; exact hi), hl]
    rw [h2, List.getD_eq_getElem?_getD (l := mixS key nonce p), h1, Option.getD_some, UInt8.xor_assoc, UInt8.xor_self, UInt8.xor_zero, List.getD_eq_getElem?_getD, List.getElem?_eq_getElem hi]; rfl
  · rw [List.getElem?_eq_none (by rw [mixS_len, mixS_len]; exact hi), List.getElem?_eq_none hi]
/-- what is closed is opened -/
theorem opened' {key nonce p bs d : List UInt8} (hD : CL key nonce p bs d) : OPN key nonce d bs p 0 := by
  have hd := hD.h
  have hl := hD.len
  unfold closeS at hd
  have hml := mixS_len key nonce p
  have htl := markS_len key nonce (mixS key nonce p) bs
  have htw := mixS_twice' key nonce p
  obtain ⟨M, hM⟩ : ∃ M, mixS key nonce p = M := ⟨_, rfl⟩
  rw [hM] at hd hml htl htw
  obtain ⟨T, hT⟩ : ∃ T, markS key nonce M bs = T := ⟨_, rfl⟩
  rw [hT] at hd htl
  refine ⟨?_⟩
  unfold openS
  have e1 : d.length - 16 = M.length := by omega
  rw [e1, if_neg (by omega), ← hd, List.take_left, List.drop_left, hT, beq_self_eq_true, if_pos rfl, htw]
theorem unJ_set0 (q m : List UInt8) (a i : Nat) (x : UInt8) (ha : 0 < a) : (unJ q m a i).set 0 x = unJ (q.set 0 x) m a i := by
  induction i with
  | zero => rfl
  | succ i ih =>
    rw [unJ, unJ, ← ih, List.set_comm _ _ (by omega)]
    congr 2
    rw [List.getD_eq_getElem?_getD, List.getD_eq_getElem?_getD, List.getElem?_set_ne (by omega)]
/-- what is closed is opened: both keys', whatever stands behind it, if its head is read where it lies -/
theorem CPR.back {ka kb kc H plain nn cl m R behind : List UInt8} {S pn : Nat} {hd : Hd} (h : CPR ka kb kc H plain S pn nn cl m R) (h1 : 1 ≤ S) (h4 : S ≤ 4) (hHl : S + 1 ≤ H.length) (hs4 : 4 ≤ plain.length + S)
    (hS : (H.getD 0 0).toNat % 4 + 1 = S) (hR : readS (R ++ behind) = (0, hd, H.length - S, R.length)) : BAR kc (R ++ behind) hd (H.length - S) R.length m (H ++ cl) S := by
  obtain ⟨a, ha⟩ : ∃ a, H.length - S = a := ⟨_, rfl⟩
  have hmm := h.mm
  have hq := h.hq
  have hcl := h.hc.len
  rw [ha] at hmm hq hR ⊢
  obtain ⟨PP, hPP⟩ : ∃ PP, H ++ cl = PP := ⟨_, rfl⟩
  have hPl : PP.length = H.length + plain.length + 16 := by rw [← hPP, List.length_append, hcl]; omega
  have h0 : PP.getD 0 0 = H.getD 0 0 := by
    rw [← hPP, List.getD_eq_getElem?_getD, List.getElem?_append_left (by omega), ← List.getD_eq_getElem?_getD]
  rw [hPP] at hmm hq ⊢
  obtain ⟨b0, hb0⟩ : ∃ b0, PP.getD 0 0 = b0 := ⟨_, rfl⟩
  obtain ⟨m0, hm0⟩ : ∃ m0, m.getD 0 0 = m0 := ⟨_, rfl⟩
  unfold unS at hq
  rw [hb0, hm0] at hq
  rw [← h0, hb0] at hS
  have hRl : R.length = PP.length := by rw [← hq, unJ_len, List.length_set]
  have hR0 : R.getD 0 0 = fstS b0 m0 := by
    rw [← hq, List.getD_eq_getElem?_getD, unJ_out _ _ _ _ _ (.inl (by omega)), List.getElem?_set_self (by omega)]; rfl
  have htk : (R ++ behind).take R.length = R := List.take_left
  have hg0 : (R ++ behind).getD 0 0 = R.getD 0 0 := by
    rw [List.getD_eq_getElem?_getD, List.getElem?_append_left (by omega), ← List.getD_eq_getElem?_getD]
  refine ⟨hR, ?_, ?_, ?_⟩
  · rw [htk]
    have e : (R.drop (a + 4)).take 16 = (PP.drop (a + 4)).take 16 := by
      congr 1
      apply List.ext_getElem?
      intro j
      rw [List.getElem?_drop, List.getElem?_drop, ← hq, unJ_out _ _ _ _ _ (.inr (by omega)), List.getElem?_set_ne (by omega)]
    rw [e]; exact hmm
  · rw [hg0, hR0, hm0, fst_twice]; exact hS
  · rw [htk]
    unfold unS
    rw [hR0, hm0, fst_twice, ← hq, unJ_set0 _ _ _ _ _ (by omega), List.set_set]
    rw [show PP.set 0 b0 = PP by
      apply List.ext_getElem?
      intro j
      by_cases hj : j = 0
      · subst hj
        rw [List.getElem?_set_self (by omega), ← hb0, List.getD_eq_getElem?_getD, List.getElem?_eq_getElem (by omega)]; rfl
      · rw [List.getElem?_set_ne (by omega)]]
    exact unJ_twice _ _ _ _ (by omega)
/-- and so its number, its nonce and all it carries -/
theorem CPR.opr {ka kb kc H plain nn cl m R behind : List UInt8} {S pn largest : Nat} {some : Bool} {hd : Hd} (h : CPR ka kb kc H plain S pn nn cl m R) (h1 : 1 ≤ S) (h4 : S ≤ 4) (hHl : S + 1 ≤ H.length) (hs4 : 4 ≤ plain.length + S)
    (hS : (H.getD 0 0).toNat % 4 + 1 = S) (hR : readS (R ++ behind) = (0, hd, H.length - S, R.length)) (hg : GR largest some (cutS H (H.length - S) S) S pn) :
    OPR ka kb kc (R ++ behind) largest some hd (H.length - S) R.length m (H ++ cl) S pn nn plain 0 := by
  have hc : cutS (H ++ cl) (H.length - S) S = cutS H (H.length - S) S := by
    unfold cutS
    rw [List.drop_append_of_le_length (by omega), List.take_append_of_le_length (by rw [List.length_drop]; omega)]
  refine ⟨h.back h1 h4 hHl hs4 hS hR, by rw [hc]; exact hg, h.non, ?_⟩
  rw [show H.length - S + S = H.length by omega, List.drop_left, List.take_left]
  exact opened' h.hc
end Go.Proofs.YtlncnjcbgfeaoaaDoor

/- what is closed is read again: short and long heads, masked. -/
set_option maxRecDepth 100000
set_option linter.unusedVariables false
namespace Go.Proofs.YtlncnjcbgfeaoaaDoor
theorem readN_eq {p p' : List UInt8} (h : p.length = p'.length) (lv : Int) (i1 i2 r : List UInt8) : readN p lv i1 i2 r = readN p' lv i1 i2 r := by unfold readN; rw [h]
theorem readT_eq {p p' : List UInt8} (h : p.length = p'.length) (lv : Int) (i1 i2 r : List UInt8) : readT p lv i1 i2 r = readT p' lv i1 i2 r := by unfold readT; simp only [readN_eq h]
theorem readL_eq (b b' : UInt8) (r : List UInt8) (lv : Int) : readL (b' :: r) lv = readL (b :: r) lv := by
  have d1 : (b' :: r).drop 1 = (b :: r).drop 1 := rfl
  have d5 : (b' :: r).drop 5 = (b :: r).drop 5 := rfl
  have d6 : ∀ x, (b' :: r).drop (5 + 1 + x) = (b :: r).drop (5 + 1 + x) := fun x => by rw [show 5 + 1 + x = (5 + x) + 1 by omega]; rfl
  have d7 : ∀ x y, (b' :: r).drop (5 + 1 + x + 1 + y) = (b :: r).drop (5 + 1 + x + 1 + y) := fun x y => by rw [show 5 + 1 + x + 1 + y = (6 + x + y) + 1 by omega]; rfl
  have hl : (b' :: r).length = (b :: r).length := rfl
  unfold readL
  simp only [hl, d1, d5, d6, d7, readT_eq hl]
/-- reading looks at no more of a first byte than its upper bits -/
theorem readS_first (b b' : UInt8) (r : List UInt8) (h : 128 ≤ b.toNat) (h' : b'.toNat / 16 = b.toNat / 16) : readS (b' :: r) = readS (b :: r) := by
  have e : readP (b' :: r) = readP (b :: r) := by
    have e1 := readL_eq b b' r 0
    have e2 := readL_eq b b' r 1
    unfold readP
    dsimp only
    rw [show b'.toNat / 64 = b.toNat / 64 by omega, h', e1, e2, if_neg (by omega : ¬ b'.toNat < 128), if_neg (by omega : ¬ b.toNat < 128)]
  unfold readS
  rw [e]
/-- the closed packet: its first byte, what stands between it and the number as it was -/
theorem CPR.shape {ka kb kc H plain nn cl m R : List UInt8} {S pn : Nat} (h : CPR ka kb kc H plain S pn nn cl m R) (b0 : UInt8) (M : List UInt8) (hS1 : 1 ≤ S) (hH : H.take (H.length - S) = b0 :: M) (hSl : S + 1 ≤ H.length) :
    ∃ X, R = fstS b0 (m.getD 0 0) :: (M ++ X) ∧ X.length = S + plain.length + 16 := by
  obtain ⟨a, ha⟩ : ∃ a, H.length - S = a := ⟨_, rfl⟩
  have hq := h.hq
  have hcl := h.hc.len
  rw [ha] at hH hq
  have hMl : M.length + 1 = a := by have := congrArg List.length hH; rw [List.length_take, List.length_cons] at this; omega
  have hRl := h.len
  have hH0 : (H ++ cl).getD 0 0 = b0 := by
    have : (H.take a)[0]? = some b0 := by rw [hH]; rfl
    rw [List.getElem?_take, if_pos (by omega)] at this
    rw [List.getD_eq_getElem?_getD, List.getElem?_append_left (by omega), this]; rfl
  unfold unS at hq
  rw [hH0] at hq
  refine ⟨R.drop a, ?_, by rw [List.length_drop]; omega⟩
  have hT : R.take a = fstS b0 (m.getD 0 0) :: M := by
    apply List.ext_getElem?
    intro j
    by_cases hj : j < a
    · rw [List.getElem?_take, if_pos hj, ← hq, unJ_out _ _ _ _ _ (.inl hj)]
      cases j with
      | zero => rw [List.getElem?_set_self (by rw [List.length_append]; omega)]; rfl
      | succ j =>
        rw [List.getElem?_set_ne (by omega), List.getElem?_append_left (by omega)]
        have : (H.take a)[j + 1]? = (b0 :: M)[j + 1]? := by rw [hH]
        rw [List.getElem?_take, if_pos hj] at this
        exact this
    · rw [List.getElem?_eq_none (by rw [List.length_take]; omega), List.getElem?_eq_none (by rw [List.length_cons]; omega)]
  have := List.take_append_drop a R
  rw [hT, List.cons_append] at this
  exact this.symm
/-- a short head -/
theorem short_read {ka kb kc plain nn cl m R t : List UInt8} {S pn : Nat} {ph : Bool} (h : CPR ka kb kc (bytesShort ph t S pn) plain S pn nn cl m R) (h1 : 1 ≤ S) (h4 : S ≤ 4) (ht : t.length = 8) (hs4 : 4 ≤ plain.length + S) :
    readS (R ++ []) = (0, ⟨false, 2, t, []⟩, (bytesShort ph t S pn).length - S, R.length) := by
  have hl : (bytesShort ph t S pn).length = 9 + S := by unfold bytesShort; simp [beB_len, ht]; omega
  obtain ⟨b0, hb0⟩ : ∃ b0, UInt8.ofNat (63 + S + if ph then 4 else 0) = b0 := ⟨_, rfl⟩
  have hbn : b0.toNat = 63 + S + if ph then 4 else 0 := by rw [← hb0]; cases ph <;> simp <;> omega
  have hH : (bytesShort ph t S pn).take ((bytesShort ph t S pn).length - S) = b0 :: t := by
    rw [hl, show 9 + S - S = 8 + 1 by omega]
    unfold bytesShort
    rw [List.take_succ_cons, hb0, List.take_append_of_le_length (by omega), List.take_of_length_le (by omega)]
  obtain ⟨X, hX, hXl⟩ := h.shape b0 t h1 hH (by omega)
  have hlo := fst_lo b0 (m.getD 0 0)
  have h32 := fst_32 b0 (m.getD 0 0)
  have hb128 : b0.toNat < 128 := by rw [hbn]; cases ph <;> simp <;> omega
  have hb32 : b0.toNat / 32 = 2 := by rw [hbn]; cases ph <;> simp <;> omega
  have hRl := h.len
  rw [List.append_nil, hX, readS_app _ _ (by omega) (hlo.2 hb128), ← hX, if_neg (by omega), if_neg (by omega), hl]
  rw [List.take_append_of_le_length (by omega), List.take_of_length_le (by omega), show 9 + S - S = 9 by omega]
theorem short_bits (ph : Bool) (t : List UInt8) (S pn : Nat) (h1 : 1 ≤ S) (h4 : S ≤ 4) : ((bytesShort ph t S pn).getD 0 0).toNat % 4 + 1 = S ∧ restN ((bytesShort ph t S pn).getD 0 0).toNat = 0 ∧
    phS false (bytesShort ph t S pn) = ph := by
  have e : (bytesShort ph t S pn).getD 0 0 = UInt8.ofNat (63 + S + if ph then 4 else 0) := rfl
  unfold phS
  rw [e]
  rcases (show S = 1 ∨ S = 2 ∨ S = 3 ∨ S = 4 by omega) with rfl | rfl | rfl | rfl <;> cases ph <;> decide
end Go.Proofs.YtlncnjcbgfeaoaaDoor
