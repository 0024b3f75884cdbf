/- talk: alias, named, over. -/
import Derived.Test.YtokgpnkooigamaaDoorTQ
import Derived.Test.YtokgpnkooigamaaDoorTM
set_option maxRecDepth 100000
set_option linter.unusedVariables false
namespace Go.Proofs.YtokgpnkooigamaaDoor
open Go.RowKit
def ack (x : AG) (l : ML) : List Value := [u64 x.m.kind, u64 x.m.id, u64 x.m.alias, l.nm.v, .int .u8 (x.m.prio : Int), .int .u8 (x.m.ord : Int), u64 x.m.sg, u64 x.m.so, u64 x.m.eg, u64 x.m.eo, .bool x.m.some, u64 x.m.code, l.rs.v, u64 x.m.n, u64 x.m.ver, l.vs.v, .int .i64 (x.st : Int)]
theorem akc_eq (x : AG) (l : ML) : akc x l = ack x l := rfl
def aliasB (n : Nat) (x : AG) : Bool := x.m.kind == 3 && x.st != 3 && x.m.alias == n
def namedB (nm : List UInt8) (x : AG) : Bool := x.m.kind == 6 && x.st == 2 && x.m.name == nm
set_option maxHeartbeats 4000000 in
theorem aliasc_any (w : World) (x : AG) (l : ML) (B n : Nat) (hc : w.cell? ⟨B, 0, none⟩ = some (.int .u64 (n : Int))) :
    Calls Tryd.prog 51 #[.agg (akc x l).toArray, .pointer (some ⟨B, 0, none⟩)] w fun e w' => e = .returned (.bool (aliasB n x)) ∧ Below w.heap.size w w' := by
  have hb := below_alloc w (.cells (akc x l).toArray 49)
  have hR := CR.new w 49 (akc x l)
  have hl : B < w.heap.size := World.block_lt_of_cell? w _ hc
  have hc2 := (hb.cell (p := ⟨B, 0, none⟩) hl).trans hc
  obtain ⟨k, hk⟩ : ∃ k, w.heap.size = k := ⟨_, rfl⟩
  obtain ⟨w1, hw1⟩ : ∃ x', w.alloc (.cells (akc x l).toArray 49) = x' := ⟨_, rfl⟩
  rw [hw1, hk] at hR
  rw [hw1] at hb hc2
  have c0 : w1.cell? ⟨k, 0, none⟩ = some (.int .u64 (x.m.kind : Int)) := hR.at_ 0
  have c2 : w1.cell? ⟨k, 2, none⟩ = some (.int .u64 (x.m.alias : Int)) := hR.at_ 2
  have c16 : w1.cell? ⟨k, 16, none⟩ = some (.int .i64 (x.st : Int)) := hR.at_ 16
  obtain ⟨R, hRR⟩ : ∃ R, aliasB n x = R := ⟨_, rfl⟩
  rw [hRR]
  unfold aliasB at hRR
  have HB := Lib.hid hb
  have HRR := Lib.hid hRR
  rw [akc_eq] at hw1 ⊢
  unfold ack u64 SA.v at hw1 ⊢
  clear hb hR hc hl hRR
  by_cases h1 : x.m.kind = 3
  · have q1 : ((x.m.kind : Int) == 3) = true := by simp; omega
    by_cases h2 : x.st = 3
    · have q2 : ((x.st : Int) != 3) = false := by simp; omega
      have hr : R = false := by rw [← HRR.out]; simp [h2]
      subst hr
      clear h1 h2
      go_enter Tryd.func51, Tryd.ntmps51
      go_wp2
      go_ret
      exact ⟨rfl, HB.out⟩
    · have q2 : ((x.st : Int) != 3) = true := by simp; omega
      by_cases h3 : x.m.alias = n
      · have q3 : ((x.m.alias : Int) == (n : Int)) = true := by simp; omega
        have hr : R = true := by rw [← HRR.out]; simp [h1, h2, h3]
        subst hr
        clear h1 h2 h3
        go_enter Tryd.func51, Tryd.ntmps51
        go_wp2
        go_ret
        exact ⟨rfl, HB.out⟩
      · have q3 : ((x.m.alias : Int) == (n : Int)) = false := by simp; omega
        have hr : R = false := by rw [← HRR.out]; simp [h3]
        subst hr
        clear h1 h2 h3
        go_enter Tryd.func51, Tryd.ntmps51
        go_wp2
        go_ret
        exact ⟨rfl, HB.out⟩
  · have q1 : ((x.m.kind : Int) == 3) = false := by simp; omega
    have hr : R = false := by rw [← HRR.out]; simp [h1]
    subst hr
    clear h1
    go_enter Tryd.func51, Tryd.ntmps51
    go_wp2
    go_ret
    exact ⟨rfl, HB.out⟩
set_option maxHeartbeats 4000000 in
theorem namedc_any (w : World) (x : AG) (l : ML) (B : Nat) {s : SA} {nm : List UInt8} (hc : w.cell? ⟨B, 0, none⟩ = some s.v) (hx : BS w s.a s.n s.c nm) (hm : MR w x.m l) :
    Calls Tryd.prog 43 #[.agg (akc x l).toArray, .pointer (some ⟨B, 0, none⟩)] w fun e w' => e = .returned (.bool (namedB nm x)) ∧ Below w.heap.size w w' := by
  have hb := below_alloc w (.cells (akc x l).toArray 49)
  have hR := CR.new w 49 (akc x l)
  have hl : B < w.heap.size := World.block_lt_of_cell? w _ hc
  have hc2 := (hb.cell (p := ⟨B, 0, none⟩) hl).trans hc
  have hx1 := RS.below hx hb (Nat.le_refl _)
  have hm1 := hm.bel hb (Nat.le_refl _)
  obtain ⟨k, hk⟩ : ∃ k, w.heap.size = k := ⟨_, rfl⟩
  obtain ⟨w1, hw1⟩ : ∃ x', w.alloc (.cells (akc x l).toArray 49) = x' := ⟨_, rfl⟩
  rw [hw1, hk] at hR
  rw [hw1] at hb hc2 hx1 hm1
  have c0 : w1.cell? ⟨k, 0, none⟩ = some (.int .u64 (x.m.kind : Int)) := hR.at_ 0
  have c3 : w1.cell? ⟨k, 3, none⟩ = some (.slice l.nm.a l.nm.n l.nm.c) := hR.at_ 3
  have c16 : w1.cell? ⟨k, 16, none⟩ = some (.int .i64 (x.st : Int)) := hR.at_ 16
  have HQ := Lib.hid (equal_any w1 hm1.nm hx1)
  obtain ⟨R, hRR⟩ : ∃ R, namedB nm x = R := ⟨_, rfl⟩
  rw [hRR]
  unfold namedB at hRR
  have HB := Lib.hid hb
  have HRR := Lib.hid hRR
  rw [akc_eq] at hw1 ⊢
  unfold ack u64 SA.v at hw1 ⊢
  unfold SA.v at hc2
  clear hb hR hc hl hRR hx hm hx1 hm1
  by_cases h1 : x.m.kind = 6
  · have q1 : ((x.m.kind : Int) == 6) = true := by simp; omega
    by_cases h2 : x.st = 2
    · have q2 : ((x.st : Int) == 2) = true := by simp; omega
      have hr : R = (x.m.name == nm) := by rw [← HRR.out]; simp [h1, h2]
      obtain ⟨E, hE⟩ : ∃ E, (x.m.name == nm) = E := ⟨_, rfl⟩
      rw [hE] at HQ hr
      subst hr
      clear h1 h2 hE
      go_enter Tryd.func43, Tryd.ntmps43
      go_wp2_with (go_at_call 44; refine HQ.out.mono ?_; rintro y w2 ⟨rfl, rfl⟩)
      go_ret
      exact ⟨rfl, HB.out⟩
    · have q2 : ((x.st : Int) == 2) = false := by simp; omega
      have hr : R = false := by rw [← HRR.out]; simp [h2]
      subst hr
      clear h1 h2
      go_enter Tryd.func43, Tryd.ntmps43
      go_wp2
      go_ret
      exact ⟨rfl, HB.out⟩
  · have q1 : ((x.m.kind : Int) == 6) = false := by simp; omega
    have hr : R = false := by rw [← HRR.out]; simp [h1]
    subst hr
    clear h1
    go_enter Tryd.func43, Tryd.ntmps43
    go_wp2
    go_ret
    exact ⟨rfl, HB.out⟩
/-- where the first one stands -/
def idxB (p : AG → Bool) : List AG → Nat → Int
  | [], _ => -1
  | x :: r, j => if p x then (j : Int) else idxB p r (j + 1)
theorem idxB_step {p : AG → Bool} {xs : List AG} {j : Nat} {x : AG} (h : xs[j]? = some x) : idxB p (xs.drop j) j = if p x then (j : Int) else idxB p (xs.drop (j + 1)) (j + 1) := by
  obtain ⟨hl, he⟩ := List.getElem?_eq_some_iff.1 h
  rw [List.drop_eq_getElem_cons hl, idxB, he]
set_option maxHeartbeats 4000000 in
theorem idxAl_any (w : World) {base : Nat} {s : SA} {xs : List AG} {ls : List ML} (h : AO w base s xs ls) (hn : s.n ≤ 1099511627776) (B n : Nat) (hc : w.cell? ⟨B, 0, none⟩ = some (.int .u64 (n : Int))) :
    Calls Tryd.prog 42 #[.slice s.a s.n s.c, .func (.func 51) #[] #[.pointer (some ⟨B, 0, none⟩)]] w fun e w' => e = .returned (.int .i64 (idxB (aliasB n) xs 0)) ∧ Below w.heap.size w w' := by
  have hl : B < w.heap.size := World.block_lt_of_cell? w _ hc
  have HCl : Hid (∀ (w1 : World) (b1 : Below w.heap.size w w1) (x : AG) (l : ML) (i : Nat), xs[i]? = some x → ls[i]? = some l → Calls Tryd.prog 51 #[.agg (akc x l).toArray, .pointer (some ⟨B, 0, none⟩)] w1 fun e w' => e = .returned (.bool (aliasB n x)) ∧ Below w1.heap.size w1 w') :=
    Lib.hid fun w1 b1 x l i h1 h2 => aliasc_any w1 x l B n ((b1.cell (p := ⟨B, 0, none⟩) hl).trans hc)
  obtain ⟨R, hR⟩ : ∃ R, idxB (aliasB n) xs 0 = R := ⟨_, rfl⟩
  rw [hR]
  obtain ⟨p, hp⟩ : ∃ p : AG → Bool, (aliasB n) = p := ⟨_, rfl⟩
  rw [hp] at HCl hR
  have HH := Lib.hid h
  have hxn := h.n
  have hS0 : ∃ j : Nat, j ≤ s.n ∧ Value.int .i64 (0 : Int) = .int .i64 (j : Int) ∧ idxB p (xs.drop j) j = R ∧ Below w.heap.size w w := ⟨0, by omega, rfl, hR, Below.refl _ _⟩
  have HS := Lib.hid hS0
  clear hl hc hR hp h hS0
  obtain ⟨sa, sn, sc⟩ := s
  simp only [] at *
  go_enter Tryd.func42, Tryd.ntmps42
  go_wp2
  go_loopw [8] (fun s8 wr => ∃ j : Nat, j ≤ sn ∧ s8 = .int .i64 (j : Int) ∧ idxB p (xs.drop j) j = R ∧ Below w.heap.size w wr) (fun s8 _ => match s8 with | .int _ x => (sn - x).toNat | _ => 0)
  case atStart => exact HS.out
  case round =>
    clear HS
    obtain ⟨j, hj, rfl, hR, hb⟩ := hrel
    have HB := Lib.hid hb
    have HR := Lib.hid hR
    clear hb hR
    by_cases hjn : j = sn
    · subst hjn
      have HX := Lib.hid hxn
      clear hxn
      go_wp2
      go_ret
      exact ⟨by rw [← HR.out, List.drop_of_length_le (by have := HX.out; omega)]; rfl, HB.out⟩
    · have hlt : j < sn := by omega
      obtain ⟨x, hx⟩ : ∃ x, xs[j]? = some x := ⟨_, List.getElem?_eq_getElem (by omega)⟩
      obtain ⟨l, hl⟩ := HH.out.loc hx
      obtain ⟨b, hbk, _⟩ := HH.out.blk hx
      simp only at hbk
      have hr := HH.out.rng hx hl (g := b) hbk
      have hrg : wr.rangeAt b (j * 17) (akc x l) := fun i v hv => (HB.out.cell (p := ⟨b, j * 17 + i, none⟩) (World.block_lt_of_cell? w _ (hr i v hv))).trans (hr i v hv)
      obtain ⟨J, hJ⟩ : ∃ J, j * 17 = J := ⟨_, rfl⟩
      rw [hJ] at hrg
      have hst := idxB_step (p := p) hx
      rw [HR.out] at hst
      have Hcl := Lib.hid (HCl.out wr HB.out x l j hx hl)
      have HJ := Lib.hid hJ
      have Hst := Lib.hid hst
      have Hrg := Lib.hid hrg
      have Hbk := Lib.hid hbk
      have hwr : IntKind.i64.wrap ((j : Int) + 1) = (j : Int) + 1 := IntWalk.i64_in _ (by omega)
      clear hx hl hr hrg hst hJ hjn hxn hbk
      rw [Hbk.out]
      obtain ⟨q, hq⟩ : ∃ q, p x = q := ⟨_, rfl⟩
      rw [hq] at Hcl Hst
      clear hq
      cases q with
      | true =>
        have hst := Hst.out
        rw [if_pos rfl] at hst
        have Hst2 := Lib.hid hst
        clear hst
        go_wp2_with (first
          | ((with_reducible refine gate_ix ?_); refine L_indexZ tA _ _ rfl .i64 _ j rfl rfl rfl hlt HJ.out (by rfl) ?_)
          | (refine wpList_load_mid rfl _ _ rfl _ _ rfl _ _ Hrg.out Tryd.underlying49 rfl iAsk ?_)
          | (go_at_call 51; refine Hcl.out.mono ?_; rintro y w2 ⟨rfl, B2⟩))
        go_ret
        exact ⟨by rw [Hst2.out]; rfl, HB.out.trans (B2.mono HB.out.size)⟩
      | false =>
        have hst := Hst.out
        rw [if_neg (by simp)] at hst
        have Hst2 := Lib.hid hst
        clear hst
        go_wp2_with (first
          | ((with_reducible refine gate_ix ?_); refine L_indexZ tA _ _ rfl .i64 _ j rfl rfl rfl hlt HJ.out (by rfl) ?_)
          | (refine wpList_load_mid rfl _ _ rfl _ _ rfl _ _ Hrg.out Tryd.underlying49 rfl iAsk ?_)
          | (go_at_call 51; refine Hcl.out.mono ?_; rintro y w2 ⟨rfl, B2⟩))
        exact ⟨⟨j + 1, by omega, by simp, Hst2.out.symm, HB.out.trans (B2.mono HB.out.size)⟩, by simp; omega⟩
set_option maxHeartbeats 4000000 in
theorem idxNm_any (w : World) {base : Nat} {s : SA} {xs : List AG} {ls : List ML} (h : AO w base s xs ls) (hn : s.n ≤ 1099511627776) (B : Nat) {s2 : SA} {nm : List UInt8} (hc : w.cell? ⟨B, 0, none⟩ = some s2.v) (hx2 : BS w s2.a s2.n s2.c nm) :
    Calls Tryd.prog 42 #[.slice s.a s.n s.c, .func (.func 43) #[] #[.pointer (some ⟨B, 0, none⟩)]] w fun e w' => e = .returned (.int .i64 (idxB (namedB nm) xs 0)) ∧ Below w.heap.size w w' := by
  have hl : B < w.heap.size := World.block_lt_of_cell? w _ hc
  have HCl : Hid (∀ (w1 : World) (b1 : Below w.heap.size w w1) (x : AG) (l : ML) (i : Nat), xs[i]? = some x → ls[i]? = some l → Calls Tryd.prog 43 #[.agg (akc x l).toArray, .pointer (some ⟨B, 0, none⟩)] w1 fun e w' => e = .returned (.bool (namedB nm x)) ∧ Below w1.heap.size w1 w') :=
    Lib.hid fun w1 b1 x l i h1 h2 => namedc_any w1 x l B ((b1.cell (p := ⟨B, 0, none⟩) hl).trans hc) (RS.below hx2 b1 (Nat.le_refl _)) ((h.ms i x l h1 h2).mr.bel b1 (Nat.le_refl _))
  obtain ⟨R, hR⟩ : ∃ R, idxB (namedB nm) xs 0 = R := ⟨_, rfl⟩
  rw [hR]
  obtain ⟨p, hp⟩ : ∃ p : AG → Bool, (namedB nm) = p := ⟨_, rfl⟩
  rw [hp] at HCl hR
  have HH := Lib.hid h
  have hxn := h.n
  have hS0 : ∃ j : Nat, j ≤ s.n ∧ Value.int .i64 (0 : Int) = .int .i64 (j : Int) ∧ idxB p (xs.drop j) j = R ∧ Below w.heap.size w w := ⟨0, by omega, rfl, hR, Below.refl _ _⟩
  have HS := Lib.hid hS0
  clear hl hc hR hp h hS0 hx2
  obtain ⟨sa, sn, sc⟩ := s
  simp only [] at *
  go_enter Tryd.func42, Tryd.ntmps42
  go_wp2
  go_loopw [8] (fun s8 wr => ∃ j : Nat, j ≤ sn ∧ s8 = .int .i64 (j : Int) ∧ idxB p (xs.drop j) j = R ∧ Below w.heap.size w wr) (fun s8 _ => match s8 with | .int _ x => (sn - x).toNat | _ => 0)
  case atStart => exact HS.out
  case round =>
    clear HS
    obtain ⟨j, hj, rfl, hR, hb⟩ := hrel
    have HB := Lib.hid hb
    have HR := Lib.hid hR
    clear hb hR
    by_cases hjn : j = sn
    · subst hjn
      have HX := Lib.hid hxn
      clear hxn
      go_wp2
      go_ret
      exact ⟨by rw [← HR.out, List.drop_of_length_le (by have := HX.out; omega)]; rfl, HB.out⟩
    · have hlt : j < sn := by omega
      obtain ⟨x, hx⟩ : ∃ x, xs[j]? = some x := ⟨_, List.getElem?_eq_getElem (by omega)⟩
      obtain ⟨l, hl⟩ := HH.out.loc hx
      obtain ⟨b, hbk, _⟩ := HH.out.blk hx
      simp only at hbk
      have hr := HH.out.rng hx hl (g := b) hbk
      have hrg : wr.rangeAt b (j * 17) (akc x l) := fun i v hv => (HB.out.cell (p := ⟨b, j * 17 + i, none⟩) (World.block_lt_of_cell? w _ (hr i v hv))).trans (hr i v hv)
      obtain ⟨J, hJ⟩ : ∃ J, j * 17 = J := ⟨_, rfl⟩
      rw [hJ] at hrg
      have hst := idxB_step (p := p) hx
      rw [HR.out] at hst
      have Hcl := Lib.hid (HCl.out wr HB.out x l j hx hl)
      have HJ := Lib.hid hJ
      have Hst := Lib.hid hst
      have Hrg := Lib.hid hrg
      have Hbk := Lib.hid hbk
      have hwr : IntKind.i64.wrap ((j : Int) + 1) = (j : Int) + 1 := IntWalk.i64_in _ (by omega)
      clear hx hl hr hrg hst hJ hjn hxn hbk
      rw [Hbk.out]
      obtain ⟨q, hq⟩ : ∃ q, p x = q := ⟨_, rfl⟩
      rw [hq] at Hcl Hst
      clear hq
      cases q with
      | true =>
        have hst := Hst.out
        rw [if_pos rfl] at hst
        have Hst2 := Lib.hid hst
        clear hst
        go_wp2_with (first
          | ((with_reducible refine gate_ix ?_); refine L_indexZ tA _ _ rfl .i64 _ j rfl rfl rfl hlt HJ.out (by rfl) ?_)
          | (refine wpList_load_mid rfl _ _ rfl _ _ rfl _ _ Hrg.out Tryd.underlying49 rfl iAsk ?_)
          | (go_at_call 43; refine Hcl.out.mono ?_; rintro y w2 ⟨rfl, B2⟩))
        go_ret
        exact ⟨by rw [Hst2.out]; rfl, HB.out.trans (B2.mono HB.out.size)⟩
      | false =>
        have hst := Hst.out
        rw [if_neg (by simp)] at hst
        have Hst2 := Lib.hid hst
        clear hst
        go_wp2_with (first
          | ((with_reducible refine gate_ix ?_); refine L_indexZ tA _ _ rfl .i64 _ j rfl rfl rfl hlt HJ.out (by rfl) ?_)
          | (refine wpList_load_mid rfl _ _ rfl _ _ rfl _ _ Hrg.out Tryd.underlying49 rfl iAsk ?_)
          | (go_at_call 43; refine Hcl.out.mono ?_; rintro y w2 ⟨rfl, B2⟩))
        exact ⟨⟨j + 1, by omega, by simp, Hst2.out.symm, HB.out.trans (B2.mono HB.out.size)⟩, by simp; omega⟩
end Go.Proofs.YtokgpnkooigamaaDoor
