/- texts WQ WR WS WX WY U2 U3 U6 WZ U4 U1 U8 U7 in one. -/
import Derived.Test.YtkhcpnmbhbhcgaaDoorYaw
import Derived.Test.YtkhcpnmbhbhcgaaDoorYac
import Derived.Test.YtkhcpnmbhbhcgaaDoorYab
import Derived.Deep.QuietTactic
import Derived.BigQuiet
import Derived.Laws.BitsAllLaws
import Derived.Deep.RegionHeld3

/- (*greet.Machine).read. -/
set_option maxRecDepth 100000
set_option linter.unusedVariables false
namespace Go.Proofs.YtkhcpnmbhbhcgaaDoor
open Go.RowKit Go.Joins
theorem or_i64_nat (a b : Nat) (ha : a < 4611686018427387904) (hb : b < 4611686018427387904) : bits .or .i64 (a : Int) (b : Int) = ((a ||| b : Nat) : Int) := by
  have hx : a ||| b < 2 ^ 62 := Nat.or_lt_two_pow (by omega) (by omega)
  have h1 : (BitVec.ofInt 64 (a : Int)).toNat = a := by
    rw [BitVec.ofInt_natCast, BitVec.toNat_ofNat]; exact Nat.mod_eq_of_lt (by omega)
  have h2 : (BitVec.ofInt 64 (b : Int)).toNat = b := by
    rw [BitVec.ofInt_natCast, BitVec.toNat_ofNat]; exact Nat.mod_eq_of_lt (by omega)
  show IntKind.i64.wrap ((BitVec.ofInt 64 (a : Int) ||| BitVec.ofInt 64 (b : Int)).toNat : Int) = _
  rw [BitVec.toNat_or, h1, h2]
  exact IntWalk.i64_in _ (by omega)
theorem or_join (a b : Nat) (ha : a < 65536) (hb : b < 256) : bits .or .i64 ((a : Int) * 256) (b : Int) = ((a * 256 + b : Nat) : Int) := by
  rw [show ((a : Int) * 256) = ((a * 256 : Nat) : Int) by omega, or_i64_nat _ _ (by omega) (by omega), nat_join 8 _ _ (by omega) (by omega)]
theorem or_len (a b c : Nat) (ha : a < 256) (hb : b < 256) (hc : c < 256) : bits .or .i64 (bits .or .i64 ((a : Int) * 65536) ((b : Int) * 256)) (c : Int) = ((a * 65536 + b * 256 + c : Nat) : Int) := by
  have e1 : bits .or .i64 ((a : Int) * 65536) ((b : Int) * 256) = (((a * 256 + b : Nat) : Int) * 256) := by
    rw [show ((a : Int) * 65536) = ((a * 65536 : Nat) : Int) by omega, show ((b : Int) * 256) = ((b * 256 : Nat) : Int) by omega, or_i64_nat _ _ (by omega) (by omega), nat_join 16 _ _ (by omega) (by omega)]
    omega
  rw [e1, or_join _ _ (by omega) hc]
  congr 1
  omega
theorem runK_lh {W0 : World} {a : Option Addr} {n c : Nat} {xs : List UInt8} (hx : BS W0 a n c xs) (i j : Nat) (h1 : i ≤ j) (h2 : j ≤ n) :
    ∃ a', BS W0 a' (j - i) (c - i) ((xs.drop i).take (j - i)) ∧ ∀ W, (Instr.slice 22 (.slice a n c) (some (.int .i64 (i : Int))) (some (.int .i64 (j : Int))) none).run Tryd.prog W = .ok (.slice a' (j - i) (c - i)) W := by
  have hle := RS.le hx
  have h := RS.cut hx i j c h1 h2 (by omega) (Nat.le_refl _)
  refine ⟨if c = i then a else a.map (·.add (i * 1)), by unfold BS; simpa only [Nat.mul_one, List.map_take, List.map_drop] using h, fun W => ?_⟩
  have hz : (Go.sizeOf (Tryd.prog.elem 22)).run Tryd.prog W = .ok 1 W := tB.sizeOf
  rw [run_slice_lh W 22 _ _ _ tB.und' .i64 .i64 _ _ (by omega) (by omega) (by omega), hz]
  simp only [Result.andThen, Int.toNat_natCast]
  rw [sliced_eq]
theorem cell_of {w : World} {bk bo n c : Nat} {xs : List UInt8} (h : BS w (some ⟨bk, bo, none⟩) n c xs) (j : Nat) (x : UInt8) (hx : xs[j]? = some x) : w.cell? ⟨bk, bo + j, none⟩ = some (.int .u8 (x.toNat : Int)) :=
  (h.2.2.2.2.2 ⟨bk, bo, none⟩ rfl).2 j (B x) (by rw [List.getElem?_map, hx]; rfl)
theorem neqw (W : World) (y1 y2 x lv : Int) (h : ¬ (y1 = x ∧ y2 = lv)) : (Go.binOp .neq 70 (.agg #[.int .u8 y1, .int .i64 y2]) (.agg #[.int .u8 x, .int .i64 lv])).run Tryd.prog W = Result.ok (.bool true) W := by
  go_simp
  exact fun h1 h2 => h ⟨h1, h2⟩
theorem tlen (l : List (Nat × Nat)) : (tcells l).length = l.length * 2 := by
  induction l with
  | nil => rfl
  | cons x l ih =>
    unfold tcells at ih ⊢
    rw [List.flatMap_cons, List.length_append, ih, List.length_cons]
    simp only [List.length_cons, List.length_nil]; omega
theorem RB.drop_ {role : Nat → Nat} {r : Nat} {a : Option Addr} (h : RB role r a) (p : Prop) [Decidable p] (i : Nat) : RB role r (if p then a else a.map (·.add i)) := fun ad ha => by
  split at ha
  · exact h ad ha
  · obtain ⟨x, hx1, hx2⟩ := Option.map_eq_some_iff.1 ha
    have hb : ad.block = x.block := by rw [← hx2]; unfold Addr.add; split <;> rfl
    rw [hb]; exact h x hx1
/-- the row of what comes next, without its head -/
theorem GM.cut_nx {w : World} {role : Nat → Nat} {g : Nat} {S : MS} {A : MA} (h : GM w role g S A) {x : Nat × Nat} {nx : List (Nat × Nat)} (hnx : S.nx = x :: nx) :
    ∃ a', (∀ W, (Instr.slice 71 (.slice A.nx.a A.nx.n A.nx.c) (some (.int .i64 1)) none none).run Tryd.prog W = .ok (.slice a' (A.nx.n - 1) (A.nx.c - 1)) W) ∧
      GM (w.setCell ⟨g, 41, none⟩ (.slice a' (A.nx.n - 1) (A.nx.c - 1))) role g { S with nx := nx } { A with nx := ⟨a', A.nx.n - 1, A.nx.c - 1⟩ } ∧ Kpt w (w.setCell ⟨g, 41, none⟩ (.slice a' (A.nx.n - 1) (A.nx.c - 1))) role role := by
  have hl : A.nx.n * 2 = (tcells S.nx).length := h.gp.nx.len.symm
  rw [hnx, tlen, List.length_cons] at hl
  have hle := RS.le h.gp.nx
  refine ⟨if A.nx.c = 1 then A.nx.a else A.nx.a.map (·.add 2), fun W => ?_, ⟨?_, ⟨h.ok.rnd, h.ok.hand, h.ok.k0c, h.ok.k0s, h.ok.k1c, h.ok.k1s, h.ok.k2c, h.ok.k2s⟩, ?_⟩, kpt_cell 41 _ h.gp.rg h.gp.top⟩
  · have hz : (Go.sizeOf (Tryd.prog.elem 71)).run Tryd.prog W = .ok 2 W := by rfl
    rw [run_slice_l W 71 _ _ _ (show Tryd.prog.underlying 71 = some (.slice 70) by rfl) .i64 1 (by omega) (by omega), hz]
    simp only [Result.andThen, Int.toNat_one]
    rw [sliced_eq]
  · exact h.row.s_nx h.ok _ _ _ { S with nx := nx } rfl
  · have hg := h.gp.cell 41 (.slice (if A.nx.c = 1 then A.nx.a else A.nx.a.map (·.add 2)) (A.nx.n - 1) (A.nx.c - 1))
    have hr := hg.nx.cut 1 A.nx.n A.nx.c (by omega) (Nat.le_refl _) hle (Nat.le_refl _)
    rw [hnx] at hr
    have he : ((tcells (x :: nx)).drop (1 * 2)).take ((A.nx.n - 1) * 2) = tcells nx := by
      rw [show (tcells (x :: nx)).drop (1 * 2) = tcells nx from rfl, List.take_of_length_le (by rw [tlen]; omega)]
    rw [he] at hr
    exact ⟨hg.rg, hg.gl, hg.top, hg.id, hg.idr, hg.sec, hg.secr, hg.par, hg.parr, hg.pe, hg.per, hr, hg.nxr.drop_ _ 2, hg.said, hg.o0, hg.o1, hg.i0, hg.i1⟩
theorem GM.cut_i0 {w : World} {role : Nat → Nat} {g : Nat} {S : MS} {A : MA} (h : GM w role g S A) (m : Nat) (hm : m ≤ A.i0.n) :
    ∃ a', (∀ W, (Instr.slice 22 (.slice A.i0.a A.i0.n A.i0.c) (some (.int .i64 (m : Int))) none none).run Tryd.prog W = .ok (.slice a' (A.i0.n - m) (A.i0.c - m)) W) ∧
      GM (w.setCell ⟨g, 39, none⟩ (.slice a' (A.i0.n - m) (A.i0.c - m))) role g { S with i0 := S.i0.drop m } { A with i0 := ⟨a', A.i0.n - m, A.i0.c - m⟩ } ∧ Kpt w (w.setCell ⟨g, 39, none⟩ (.slice a' (A.i0.n - m) (A.i0.c - m))) role role := by
  refine ⟨if A.i0.c = m then A.i0.a else A.i0.a.map (·.add m), fun W => ?_, ⟨?_, ⟨h.ok.rnd, h.ok.hand, h.ok.k0c, h.ok.k0s, h.ok.k1c, h.ok.k1s, h.ok.k2c, h.ok.k2s⟩, ?_⟩, kpt_cell 39 _ h.gp.rg h.gp.top⟩
  · have hz : (Go.sizeOf (Tryd.prog.elem 22)).run Tryd.prog W = .ok 1 W := tB.sizeOf
    rw [run_slice_l W 22 _ _ _ tB.und' .i64 _ (by omega) (by omega), hz]
    simp only [Result.andThen, Int.toNat_natCast]
    rw [sliced_eq, Nat.mul_one]
  · exact h.row.s_i0 h.ok _ _ _ { S with i0 := S.i0.drop m } rfl
  · have hg := h.gp.cell 39 (.slice (if A.i0.c = m then A.i0.a else A.i0.a.map (·.add m)) (A.i0.n - m) (A.i0.c - m))
    have hd := hg.i0.drop m hm
    rw [← List.map_drop] at hd
    have i0 := hg.i0
    have i1 := hg.i1
    exact ⟨hg.rg, hg.gl, hg.top, hg.id, hg.idr, hg.sec, hg.secr, hg.par, hg.parr, hg.pe, hg.per, hg.nx, hg.nxr, hg.said, hg.o0, hg.o1, by first | exact hd | exact i0, by first | exact hd | exact i1⟩
theorem GM.cut_i1 {w : World} {role : Nat → Nat} {g : Nat} {S : MS} {A : MA} (h : GM w role g S A) (m : Nat) (hm : m ≤ A.i1.n) :
    ∃ a', (∀ W, (Instr.slice 22 (.slice A.i1.a A.i1.n A.i1.c) (some (.int .i64 (m : Int))) none none).run Tryd.prog W = .ok (.slice a' (A.i1.n - m) (A.i1.c - m)) W) ∧
      GM (w.setCell ⟨g, 40, none⟩ (.slice a' (A.i1.n - m) (A.i1.c - m))) role g { S with i1 := S.i1.drop m } { A with i1 := ⟨a', A.i1.n - m, A.i1.c - m⟩ } ∧ Kpt w (w.setCell ⟨g, 40, none⟩ (.slice a' (A.i1.n - m) (A.i1.c - m))) role role := by
  refine ⟨if A.i1.c = m then A.i1.a else A.i1.a.map (·.add m), fun W => ?_, ⟨?_, ⟨h.ok.rnd, h.ok.hand, h.ok.k0c, h.ok.k0s, h.ok.k1c, h.ok.k1s, h.ok.k2c, h.ok.k2s⟩, ?_⟩, kpt_cell 40 _ h.gp.rg h.gp.top⟩
  · have hz : (Go.sizeOf (Tryd.prog.elem 22)).run Tryd.prog W = .ok 1 W := tB.sizeOf
    rw [run_slice_l W 22 _ _ _ tB.und' .i64 _ (by omega) (by omega), hz]
    simp only [Result.andThen, Int.toNat_natCast]
    rw [sliced_eq, Nat.mul_one]
  · exact h.row.s_i1 h.ok _ _ _ { S with i1 := S.i1.drop m } rfl
  · have hg := h.gp.cell 40 (.slice (if A.i1.c = m then A.i1.a else A.i1.a.map (·.add m)) (A.i1.n - m) (A.i1.c - m))
    have hd := hg.i1.drop m hm
    rw [← List.map_drop] at hd
    have i0 := hg.i0
    have i1 := hg.i1
    exact ⟨hg.rg, hg.gl, hg.top, hg.id, hg.idr, hg.sec, hg.secr, hg.par, hg.parr, hg.pe, hg.per, hg.nx, hg.nxr, hg.said, hg.o0, hg.o1, by first | exact hd | exact i0, by first | exact hd | exact i1⟩
/-- the next message's cells -/
theorem tat {w : World} {a : Option Addr} {n c y1 y2 : Nat} {l : List (Nat × Nat)} (h : RS w 2 a n c (tcells ((y1, y2) :: l))) :
    ∃ nk no, a = some ⟨nk, no, none⟩ ∧ w.cell? ⟨nk, no, none⟩ = some (.int .u8 (y1 : Int)) ∧ w.cell? ⟨nk, no + 1, none⟩ = some (.int .i64 (y2 : Int)) := by
  have hl := h.len
  rw [tlen] at hl
  simp at hl
  cases a with
  | none => have := h.nil_inv; omega
  | some ad =>
    obtain ⟨h1, h2⟩ := h.2.2.2.2.2 ad rfl
    have hs := h1 (by have := h.le; omega)
    have q0 := h2 0 (.int .u8 (y1 : Int)) rfl
    have q1 := h2 1 (.int .i64 (y2 : Int)) rfl
    obtain ⟨nk, no, sp⟩ := ad
    simp only at hs
    subst hs
    exact ⟨nk, no, rfl, q0, q1⟩
theorem GM.drewN {w : World} {role : Nat → Nat} {g : Nat} {S : MS} {A : MA} (h : GM w role g S A) : ∀ k, GM (w.drewN k) role g S A
  | 0 => h
  | k + 1 => by rw [World.drewN]; exact (GM.drewN h k).drew
theorem Kpt.drewN {w w' : World} {role role' : Nat → Nat} (h : Kpt w w' role role') : ∀ k, Kpt w (w'.drewN k) role role'
  | 0 => h
  | k + 1 => by rw [World.drewN]; exact (Kpt.drewN h k).drew
theorem RS.drewN {w : World} {z n c : Nat} {a : Option Addr} {vs : List Value} (h : RS w z a n c vs) : ∀ k, RS (w.drewN k) z a n c vs
  | 0 => h
  | k + 1 => by rw [World.drewN]; exact (RS.drewN h k).drew
set_option maxHeartbeats 4000000 in
theorem gread_0 (w : World) {role : Nat → Nat} {g : Nat} {S : MS} {A : MA} (hM : GM w role g S A)
    (hs : S.said.length + S.nx.length * 1000000000 ≤ 274877906944) (ho0 : S.o0.length + S.nx.length * 1000000000 ≤ 274877906944) (ho1 : S.o1.length + S.nx.length * 1000000000 ≤ 274877906944) (hc : S.sec.length ≤ 274877906944) (hpar : S.par.length ≤ 600) (hK : KT w) (hR : role 3 = 0) :
    Calls Tryd.prog 27 #[.pointer (some ⟨g, 0, none⟩), .int .i64 0] w fun e w' => e = .returned (.tuple #[]) ∧ ∃ role' A', GM w' role' g (readM 0 (S.nx.length + 1) S) A' ∧ Kpt w w' role role' := by
  obtain ⟨RES, hRES⟩ : ∃ x, readM 0 (S.nx.length + 1) S = x := ⟨_, rfl⟩
  rw [hRES]
  have HK := Lib.hid hK
  have HRS := Lib.hid (show ∃ role' S' A', GM w role' g S' A' ∧ Kpt w w role role' ∧ readM 0 (S'.nx.length + 1) S' = RES ∧ S'.said.length + S'.nx.length * 1000000000 ≤ 274877906944 ∧ S'.o0.length + S'.nx.length * 1000000000 ≤ 274877906944 ∧ S'.o1.length + S'.nx.length * 1000000000 ≤ 274877906944 ∧ S'.sec.length ≤ 274877906944 ∧ S'.par.length ≤ 600 from ⟨role, S, A, hM, Kpt.refl w role hM.gp.top, hRES, hs, ho0, ho1, hc, hpar⟩)
  clear hM hs ho0 ho1 hc hpar hRES hK
  go_enter Tryd.func27, Tryd.ntmps27
  go_wp2
  go_loopw [4] (fun s4 wr => ∃ role' S' A', GM wr role' g S' A' ∧ Kpt w wr role role' ∧ readM 0 (S'.nx.length + 1) S' = RES ∧ S'.said.length + S'.nx.length * 1000000000 ≤ 274877906944 ∧ S'.o0.length + S'.nx.length * 1000000000 ≤ 274877906944 ∧ S'.o1.length + S'.nx.length * 1000000000 ≤ 274877906944 ∧ S'.sec.length ≤ 274877906944 ∧ S'.par.length ≤ 600) (fun _ wr => match wr.cell? ⟨g, 41, none⟩ with | some (.slice _ n _) => n | _ => 0)
  case atStart => exact HRS.out
  case round =>
    clear HRS
    obtain ⟨role1, S1, A1, hM, hk, hres, hs, ho0, ho1, hc, hpar⟩ := hrel
    have HM := Lib.hid hM
    have HKP := Lib.hid hk
    have HRES := Lib.hid hres
    have hOk := hM.ok
    have q272 : wr.cell? ⟨g, 272, none⟩ = some (.int .u64 (S1.wrong : Int)) := (hM.row.cells hOk).g272
    have qI : wr.cell? ⟨g, 39, none⟩ = some (.slice A1.i0.a A1.i0.n A1.i0.c) := (hM.row.cells hOk).g39
    have hbs : BS wr A1.i0.a A1.i0.n A1.i0.c S1.i0 := hM.gp.i0.rs
    have hlen := BS.len hbs
    obtain ⟨b, hb⟩ : ∃ x, S1.i0 = x := ⟨_, rfl⟩
    obtain ⟨ia, hia⟩ : ∃ x, A1.i0.a = x := ⟨_, rfl⟩
    obtain ⟨n, hn⟩ : ∃ x, A1.i0.n = x := ⟨_, rfl⟩
    obtain ⟨ic, hic⟩ : ∃ x, A1.i0.c = x := ⟨_, rfl⟩
    rw [hia, hn, hic] at qI hbs
    rw [hn] at hlen
    rw [hb] at hbs hlen
    have HB := Lib.hid hb
    have HBS := Lib.hid hbs
    have HL := Lib.hid hlen
    have HIA := Lib.hid hia
    have HIN := Lib.hid hn
    have HIC := Lib.hid hic
    clear hM hk hres hbs hlen hb hia hn hic
    by_cases hw : S1.wrong = 0
    · have hwi : ((S1.wrong : Int) == 0) = true := by simp [hw]
      by_cases h0 : n = 0
      · have hfin : RES = S1 := by
          rw [← HRES.out]; unfold readM
          have hbn : b = [] := List.eq_nil_of_length_eq_zero (by rw [HL.out]; exact h0)
          rw [if_pos (.inr (by show inS 0 S1 = []; unfold inS; rw [if_pos rfl, HB.out, hbn]))]
        have HF := Lib.hid hfin
        have h0' : ¬ (0 < (n : Int)) := by omega
        clear hfin hw h0
        go_wp2
        go_end0
        first | exact ⟨rfl, role1, A1, by rw [HF.out]; exact HM.out, HKP.out⟩ | exact ⟨rfl, role1, ⟨A1, by rw [HF.out]; exact HM.out⟩, HKP.out⟩
      · have h0' : 0 < (n : Int) := by omega
        obtain ⟨bk, bo, rfl, hcell⟩ := HBS.out.at_ (by omega)
        obtain ⟨x0, hx0⟩ : ∃ x, b[0]? = some x := ⟨_, List.getElem?_eq_getElem (by rw [HL.out]; omega)⟩
        have k0 := hcell 0 x0 hx0
        rw [Nat.add_zero] at k0
        have t0 := x0.toNat_lt
        have hg0 : b.getD 0 0 = x0 := by rw [List.getD_eq_getElem?_getD, hx0]; rfl
        have hin : inS 0 S1 = b := by unfold inS; rw [if_pos rfl]; exact HB.out
        have hstep := HRES.out
        unfold readM at hstep
        rw [hin, if_neg (by intro h; rcases h with h | h; exact h hw; rw [h] at hx0; cases hx0)] at hstep
        rw [HL.out] at hstep
        clear hin hw h0
        go_upto_region 2 with (fail)
        by_cases h4 : 4 ≤ n
        · have h4' : (4 : Int) ≤ (n : Int) := by omega
          obtain ⟨x1, hx1⟩ : ∃ x, b[1]? = some x := ⟨_, List.getElem?_eq_getElem (by rw [HL.out]; omega)⟩
          obtain ⟨x2, hx2⟩ : ∃ x, b[2]? = some x := ⟨_, List.getElem?_eq_getElem (by rw [HL.out]; omega)⟩
          obtain ⟨x3, hx3⟩ : ∃ x, b[3]? = some x := ⟨_, List.getElem?_eq_getElem (by rw [HL.out]; omega)⟩
          have k1 := hcell 1 x1 hx1
          have k2 := hcell 2 x2 hx2
          have k3 := hcell 3 x3 hx3
          have t1 := x1.toNat_lt
          have t2 := x2.toNat_lt
          have t3 := x3.toNat_lt
          have hlg : lenG b = x1.toNat * 65536 + x2.toNat * 256 + x3.toNat := by unfold lenG; simp only [List.getD_eq_getElem?_getD, hx1, hx2, hx3, Option.getD_some]
          have hl2 : len2 b = 4 + (x2.toNat * 256 + x3.toNat) := by unfold len2; simp only [List.getD_eq_getElem?_getD, hx2, hx3, Option.getD_some]
          obtain ⟨L, hL⟩ : ∃ L, x1.toNat * 65536 + x2.toNat * 256 + x3.toNat = L := ⟨_, rfl⟩
          have ho := or_len x1.toNat x2.toNat x3.toNat t1 t2 t3
          rw [hL] at ho hlg
          clear hx1
          by_cases hbig : 1024 < L
          · have hbig' : 1024 < (L : Int) := by omega
            have HF := Lib.hid (show RES = { S1 with wrong := 306 } by rw [← hstep, if_pos ⟨h4, by omega⟩])
            clear hstep
            go_quiet (fail)
            generalize hwq : World.drewN wr _ = wq
            have hmq : GM wq role1 g S1 A1 := by rw [← hwq]; exact HM.out.drewN _
            have hkq : Kpt w wq role role1 := by rw [← hwq]; exact HKP.out.drewN _
            have r272 : wq.cell? ⟨g, 272, none⟩ = some (.int .u64 (S1.wrong : Int)) := (hmq.row.cells hOk).g272
            have f272 := hmq.row.fr 272
            obtain ⟨hmw, hkw⟩ := hmq.set_wrong 306
            have HMW := Lib.hid hmw
            have HKW := Lib.hid (hkq.trans hkw)
            clear hmw hkw hmq hkq hwq
            go_wp2
            (try simp only [Exit.inBlock, Exit.then]); refine bodyPost_ret (results_none rfl _ _ _) rfl ?_
            first | exact ⟨rfl, role1, A1, by rw [HF.out]; exact HMW.out, HKW.out⟩ | exact ⟨rfl, role1, ⟨A1, by rw [HF.out]; exact HMW.out⟩, HKW.out⟩
          · have hnb : ¬ (1024 < (L : Int)) := by omega
            rw [if_neg (by rw [hlg]; omega)] at hstep
            go_quiet (fail)
            generalize hwq : World.drewN wr _ = wq
            have hmq : GM wq role1 g S1 A1 := by rw [← hwq]; exact HM.out.drewN _
            have hkq : Kpt w wq role role1 := by rw [← hwq]; exact HKP.out.drewN _
            have hbq : BS wq (some ⟨bk, bo, none⟩) n ic b := by rw [← hwq]; exact HBS.out.drewN _
            have HMq := Lib.hid hmq
            have HKq := Lib.hid hkq
            have HBq := Lib.hid hbq
            have e0 := (cell_of hbq 0 x0 hx0)
            have e2 := (cell_of hbq 2 x2 hx2)
            have e3 := (cell_of hbq 3 x3 hx3)
            rw [Nat.add_zero] at e0
            clear hmq hkq hbq hwq k0 k1 k2 k3 hcell
            go_upto_region 4 with (fail)
            have q41 : wq.cell? ⟨g, 41, none⟩ = some (.slice A1.nx.a A1.nx.n A1.nx.c) := (HMq.out.row.cells hOk).g41
            have hnl : A1.nx.n * 2 = (tcells S1.nx).length := HMq.out.gp.nx.len.symm
            have hnr := HMq.out.gp.nx
            cases hnx : S1.nx with
            | nil =>
              rw [hnx] at hnl hstep
              dsimp only at hstep
              have hn0 : A1.nx.n = 0 := by rw [tlen, List.length_nil] at hnl; omega
              rw [hn0] at q41
              have HF := Lib.hid (show RES = { S1 with wrong := 266 } by rw [← hstep, hnx])
              clear hnl hnr hstep hnx hn0
              go_quiet (fail)
              generalize hws : World.drewN wq _ = ws
              have hms : GM ws role1 g S1 A1 := by rw [← hws]; exact HMq.out.drewN _
              have hks : Kpt w ws role role1 := by rw [← hws]; exact HKq.out.drewN _
              have r272 : ws.cell? ⟨g, 272, none⟩ = some (.int .u64 (S1.wrong : Int)) := (hms.row.cells hOk).g272
              have f272 := hms.row.fr 272
              obtain ⟨hmw, hkw⟩ := hms.set_wrong 266
              have HMW := Lib.hid hmw
              have HKW := Lib.hid (hks.trans hkw)
              clear hmw hkw hms hks hws
              go_wp2
              (try simp only [Exit.inBlock, Exit.then]); refine bodyPost_ret (results_none rfl _ _ _) rfl ?_
              first | exact ⟨rfl, role1, A1, by rw [HF.out]; exact HMW.out, HKW.out⟩ | exact ⟨rfl, role1, ⟨A1, by rw [HF.out]; exact HMW.out⟩, HKW.out⟩
            | cons x nx =>
              rw [hnx] at hnl hstep hnr
              dsimp only at hstep
              obtain ⟨y1, y2⟩ := x
              have hnn : A1.nx.n = nx.length + 1 := by rw [tlen, List.length_cons] at hnl; omega
              obtain ⟨na, hna⟩ : ∃ v, A1.nx.a = v := ⟨_, rfl⟩
              obtain ⟨nn, hnn'⟩ : ∃ v, A1.nx.n = v := ⟨_, rfl⟩
              obtain ⟨nc, hnc⟩ : ∃ v, A1.nx.c = v := ⟨_, rfl⟩
              rw [hna, hnn', hnc] at q41 hnr
              rw [hnn'] at hnn
              have hnp : 0 < nn := by omega
              have hnpi : 0 < (nn : Int) := by omega
              obtain ⟨nk, no, rfl, hy1, hy2⟩ := tat hnr
              have HNA := Lib.hid hna
              have HNN := Lib.hid hnn'
              have HNC := Lib.hid hnc
              have HNR := Lib.hid hnr
              have HNL := Lib.hid hnn
              have hz : ((nn : Int) == 0) = false := by simp; omega
              have hz2 : decide ((nn : Int) = 0) = false := decide_eq_false (by omega)
              clear hnl hnr hnn hna hnn' hnc
              by_cases hy : y1 = x0.toNat ∧ y2 = 0
              · obtain ⟨rfl, rfl⟩ := hy
                rw [if_neg (by rw [hg0]; simp)] at hstep
                have HST := Lib.hid hstep
                have HNX := Lib.hid hnx
                clear hstep hnx
                go_quiet (fail)
                generalize hws : World.drewN wq _ = ws
                have hms : GM ws role1 g S1 A1 := by rw [← hws]; exact HMq.out.drewN _
                have hks : Kpt w ws role role1 := by rw [← hws]; exact HKq.out.drewN _
                have hbs : BS ws (some ⟨bk, bo, none⟩) n ic b := by rw [← hws]; exact HBq.out.drewN _
                have HMs := Lib.hid hms
                have HKs := Lib.hid hks
                have HBs := Lib.hid hbs
                clear hms hks hbs hws
                have e0s := cell_of HBs.out 0 x0 hx0
                have e2s := cell_of HBs.out 2 x2 hx2
                have e3s := cell_of HBs.out 3 x3 hx3
                rw [Nat.add_zero] at e0s
                obtain ⟨N0, hN0⟩ : ∃ v, x2.toNat * 256 + x3.toNat = v := ⟨_, rfl⟩
                have hN0b : N0 < 65536 := by omega
                have ho2 := or_join x2.toNat x3.toNat (by omega) t3
                rw [hN0] at ho2 hl2
                have HL2 := Lib.hid hl2
                clear e0 e2 e3 hN0 hl2 hx2 hx3 ho hlg
                go_upto_region 7 with (fail)
                go_quiet (fail)
                generalize hwt : World.drewN ws _ = wt
                have HMt := Lib.hid (show GM wt role1 g S1 A1 by rw [← hwt]; exact HMs.out.drewN _)
                have HKt := Lib.hid (show Kpt w wt role role1 by rw [← hwt]; exact HKs.out.drewN _)
                have HBt := Lib.hid (show BS wt (some ⟨bk, bo, none⟩) n ic b by rw [← hwt]; exact HBs.out.drewN _)
                clear hwt e0s e2s e3s
                by_cases hfew : n < 4 + N0
                · have hfi : (n : Int) < 4 + (N0 : Int) := by omega
                  have hstep := HST.out
                  rw [if_neg (by omega), if_pos (by rw [HL2.out]; omega)] at hstep
                  have HF := Lib.hid (show RES = S1 from hstep.symm)
                  clear hstep hfew
                  go_wp2
                  (try simp only [Exit.inBlock, Exit.then]); refine bodyPost_ret (results_none rfl _ _ _) rfl ?_
                  first | exact ⟨rfl, role1, A1, by rw [HF.out]; exact HMt.out, HKt.out⟩ | exact ⟨rfl, role1, ⟨A1, by rw [HF.out]; exact HMt.out⟩, HKt.out⟩
                · have hfi : ¬ ((n : Int) < 4 + (N0 : Int)) := by omega
                  go_upto_region 9 with (fail)
                  obtain ⟨m, hm⟩ : ∃ v, 4 + N0 = v := ⟨_, rfl⟩
                  have hmi : 4 + (N0 : Int) = (m : Int) := by omega
                  rw [hmi]
                  have hmn : m ≤ n := by omega
                  have h4m : 4 ≤ m := by omega
                  have hmb : m ≤ 65540 := by omega
                  have hstep := HST.out
                  rw [if_neg (by omega), if_neg (by rw [HL2.out]; omega), HL2.out, hm, hg0, List.drop_take] at hstep
                  have hmV := HMt.out.drew
                  have hkV := HKt.out.drew
                  have hbV : BS wt.drew (some ⟨bk, bo, none⟩) n ic b := HBt.out.drew
                  obtain ⟨V, hV⟩ : ∃ x, wt.drew = x := ⟨_, rfl⟩
                  rw [hV] at hmV hkV hbV
                  have p41 : V.cell? ⟨g, 41, none⟩ = some (.slice (some ⟨nk, no, none⟩) nn nc) := by
                    have h := (hmV.row.cells hOk).g41
                    rw [← HNA.out, ← HNN.out, ← HNC.out]; exact h
                  have f41 := hmV.row.fr 41
                  have hbne : bk ≠ g := by
                    intro he
                    have h1 := HMt.out.gp.i0.rb ⟨bk, bo, none⟩ HIA.out
                    rw [he, HMt.out.gp.rg] at h1
                    omega
                  obtain ⟨a5, hr5, hm5, hk5⟩ := hmV.cut_nx HNX.out
                  obtain ⟨A5, hA5⟩ : ∃ x : MA, { A1 with nx := ⟨a5, A1.nx.n - 1, A1.nx.c - 1⟩ } = x := ⟨_, rfl⟩
                  have hA5i : A5.i0 = A1.i0 := by rw [← hA5]
                  obtain ⟨S5, hS5⟩ : ∃ x : MS, { S1 with nx := nx } = x := ⟨_, rfl⟩
                  rw [hA5, hS5] at hm5
                  rw [HNA.out, HNN.out, HNC.out] at hr5
                  rw [HNN.out, HNC.out] at hm5 hk5
                  have hi5 : S5.i0 = b := by rw [← hS5]; exact HB.out
                  have hOk5 := hm5.ok
                  obtain ⟨a6, hr6, hm6, hk6⟩ := hm5.cut_i0 m (by rw [hA5i, HIN.out]; exact hmn)
                  rw [hA5i, HIA.out, HIN.out, HIC.out] at hr6
                  rw [hA5i, HIN.out, HIC.out] at hm6 hk6
                  have p39 : (V.setCell ⟨g, 41, none⟩ (.slice a5 (nn - 1) (nc - 1))).cell? ⟨g, 39, none⟩ = some (.slice A5.i0.a A5.i0.n A5.i0.c) := (hm5.row.cells hOk5).g39
                  have f39 := hm5.row.fr 39
                  obtain ⟨n5, hn5⟩ : ∃ x, nn - 1 = x := ⟨_, rfl⟩
                  obtain ⟨c5, hc5⟩ : ∃ x, nc - 1 = x := ⟨_, rfl⟩
                  obtain ⟨n6, hn6⟩ : ∃ x, n - m = x := ⟨_, rfl⟩
                  obtain ⟨c6, hc6⟩ : ∃ x, ic - m = x := ⟨_, rfl⟩
                  rw [hn5, hc5] at hr5 hk5 hm5 hm6 hk6 p39 f39
                  rw [hn6, hc6] at hr6 hm6 hk6
                  obtain ⟨S6, hS6⟩ : ∃ x : MS, { S5 with i0 := S5.i0.drop m } = x := ⟨_, rfl⟩
                  obtain ⟨A6, hA6⟩ : ∃ x : MA, { A5 with i0 := ⟨a6, n6, c6⟩ } = x := ⟨_, rfl⟩
                  rw [hS6, hA6] at hm6
                  have hcut : cutI 0 m S5 = S6 := by rw [← hS6]; unfold cutI; rw [if_pos rfl, if_pos rfl]
                  rw [hS5, hcut] at hstep
                  have hb6 : BS ((V.setCell ⟨g, 41, none⟩ (.slice a5 n5 c5)).setCell ⟨g, 39, none⟩ (.slice a6 n6 c6)) (some ⟨bk, bo, none⟩) n ic b :=
                    RS.grown (RS.grown hbV (grownBy_setCell V ⟨g, 41, none⟩ (.slice a5 n5 c5)) (fun ad ha he => by cases ha; exact hbne (by simpa using he))) (grownBy_setCell _ ⟨g, 39, none⟩ (.slice a6 n6 c6)) (fun ad ha he => by cases ha; exact hbne (by simpa using he))
                  have hk6 := (hkV.trans hk5).trans hk6
                  have g1 : S6.said = S1.said ∧ S6.o0 = S1.o0 ∧ S6.o1 = S1.o1 ∧ S6.sec = S1.sec ∧ S6.par = S1.par ∧ S6.nx = nx := by rw [← hS6, ← hS5]; exact ⟨rfl, rfl, rfl, rfl, rfl, rfl⟩
                  have HG1 := Lib.hid g1
                  have HM6 := Lib.hid hm6
                  have HK6 := Lib.hid hk6
                  have HB6 := Lib.hid hb6
                  have HS6 := Lib.hid hstep
                  clear hmi hfi hfew hA5i hA5 hS5 hi5 hOk5 hm5 hk5 hm6 hk6 hb6 hstep hcut hn5 hc5 hn6 hc6 hS6 hA6 g1 hbV hmV hkV hm
                  refine wp_region_held_drew (S := fun _ => True) (by kernel_rfl) trivial (fun hHeld => ?_)
                  rw [hV]
                  clear hV
                  refine wpAnyH_take (i := 0) (v := .pointer (some ⟨g, 0, none⟩)) rfl (by kernel_rfl) (by kernel_rfl) (by kernel_rfl) (fun _ _ _ h => h) (Or.inl ⟨by rfl, fun w h => by go_simp⟩) hHeld ?_
                  try simp only [Act.put, List.getElem_toArray, List.getElem_cons_zero, List.setIfInBounds_toArray, List.set_cons_zero, List.set_cons_succ]
                  refine wpAnyH_take (i := 1) (v := .pointer (some ⟨g, 0, none⟩)) rfl (by kernel_rfl) (by kernel_rfl) (by kernel_rfl) (fun _ _ _ h => h) (Or.inl ⟨by rfl, fun w h => by go_simp⟩) hHeld ?_
                  try simp only [Act.put, List.getElem_toArray, List.getElem_cons_succ, List.getElem_cons_zero, List.setIfInBounds_toArray, List.set_cons_zero, List.set_cons_succ]
                  refine wpAnyH_take (i := 2) (v := .int .i64 0) rfl (by kernel_rfl) (by kernel_rfl) (by kernel_rfl) (fun _ _ _ h => h) (Or.inl ⟨by rfl, fun w h => by go_simp⟩) hHeld ?_
                  try simp only [Act.put, List.getElem_toArray, List.getElem_cons_succ, List.getElem_cons_zero, List.setIfInBounds_toArray, List.set_cons_zero, List.set_cons_succ]
                  refine wpAnyH_take (i := 3) (v := .pointer (some ⟨g, 0, none⟩)) rfl (by kernel_rfl) (by kernel_rfl) (by kernel_rfl) (fun _ _ _ h => h) (Or.inl ⟨by rfl, fun w h => by go_simp⟩) hHeld ?_
                  try simp only [Act.put, List.getElem_toArray, List.getElem_cons_succ, List.getElem_cons_zero, List.setIfInBounds_toArray, List.set_cons_zero, List.set_cons_succ]
                  refine wpAnyH_take (i := 4) (v := .pointer (some ⟨g, 0, none⟩)) rfl (by kernel_rfl) (by kernel_rfl) (by kernel_rfl) (fun _ _ _ h => h) (Or.inl ⟨by rfl, fun w h => by go_simp⟩) hHeld ?_
                  try simp only [Act.put, List.getElem_toArray, List.getElem_cons_succ, List.getElem_cons_zero, List.setIfInBounds_toArray, List.set_cons_zero, List.set_cons_succ]
                  refine wpAnyH_take (i := 5) (v := .pointer (some ⟨g, 41, none⟩)) rfl (by kernel_rfl) (by kernel_rfl) (by kernel_rfl) (fun _ _ _ h => h) (Or.inl ⟨by rfl, fun w h => by go_simp⟩) hHeld ?_
                  try simp only [Act.put, List.getElem_toArray, List.getElem_cons_succ, List.getElem_cons_zero, List.setIfInBounds_toArray, List.set_cons_zero, List.set_cons_succ]
                  refine wpAnyH_take (i := 8) (v := .slice (some ⟨bk, bo, none⟩) n ic) rfl (by kernel_rfl) (by kernel_rfl) (by kernel_rfl) (fun _ _ _ h => h) (Or.inl ⟨by rfl, fun w h => by go_simp⟩) hHeld ?_
                  try simp only [Act.put, List.getElem_toArray, List.getElem_cons_succ, List.getElem_cons_zero, List.setIfInBounds_toArray, List.set_cons_zero, List.set_cons_succ]
                  refine wpAnyH_take (i := 9) (v := .int .i64 (m : Int)) rfl (by kernel_rfl) (by kernel_rfl) (by kernel_rfl) (fun _ _ _ h => h) (Or.inl ⟨by rfl, fun w h => by go_simp⟩) hHeld ?_
                  try simp only [Act.put, List.getElem_toArray, List.getElem_cons_succ, List.getElem_cons_zero, List.setIfInBounds_toArray, List.set_cons_zero, List.set_cons_succ]
                  refine wpAnyH_take (i := 10) (v := .slice a6 n6 c6) rfl (by kernel_rfl) (by kernel_rfl) (by kernel_rfl) (fun _ _ _ h => h) (Or.inl ⟨by rfl, fun w h => by go_simp⟩) hHeld ?_
                  try simp only [Act.put, List.getElem_toArray, List.getElem_cons_succ, List.getElem_cons_zero, List.setIfInBounds_toArray, List.set_cons_zero, List.set_cons_succ]
                  refine wpAnyH_take (i := 14) (v := .pointer (some ⟨g, 0, none⟩)) rfl (by kernel_rfl) (by kernel_rfl) (by kernel_rfl) (fun _ _ _ h => h) (Or.inl ⟨by rfl, fun w h => by go_simp⟩) hHeld ?_
                  try simp only [Act.put, List.getElem_toArray, List.getElem_cons_succ, List.getElem_cons_zero, List.setIfInBounds_toArray, List.set_cons_zero, List.set_cons_succ]
                  refine wpAnyH_take (i := 15) (v := .pointer (some ⟨g, 39, none⟩)) rfl (by kernel_rfl) (by kernel_rfl) (by kernel_rfl) (fun _ _ _ h => h) (Or.inl ⟨by rfl, fun w h => by go_simp⟩) hHeld ?_
                  try simp only [Act.put, List.getElem_toArray, List.getElem_cons_succ, List.getElem_cons_zero, List.setIfInBounds_toArray, List.set_cons_zero, List.set_cons_succ]
                  refine wpAnyH_ready (rs := [6]) (by kernel_rfl) (by simp) (AllReadyH.cons rfl (fun K hK => ?_) AllReadyH.nil)
                  go_simp
                  refine hK.out _ _ trivial (fun hHeld => ?_)
                  clear hK K
                  try simp only [Act.put, List.getElem_toArray, List.getElem_cons_succ, List.getElem_cons_zero, List.setIfInBounds_toArray, List.set_cons_zero, List.set_cons_succ]
                  refine wpAnyH_take (i := 7) (v := .slice a5 n5 c5) rfl (by kernel_rfl) (by kernel_rfl) (by kernel_rfl) (fun _ _ _ h => h) (Or.inl ⟨by rfl, fun w h => by go_simp⟩) hHeld ?_
                  try simp only [Act.put, List.getElem_toArray, List.getElem_cons_succ, List.getElem_cons_zero, List.setIfInBounds_toArray, List.set_cons_zero, List.set_cons_succ]
                  refine wpAnyH_take (i := 11) (v := .pointer (some ⟨g, 0, none⟩)) rfl (by kernel_rfl) (by kernel_rfl) (by kernel_rfl) (fun _ _ _ h => h) (Or.inl ⟨by rfl, fun w h => by go_simp⟩) hHeld ?_
                  try simp only [Act.put, List.getElem_toArray, List.getElem_cons_succ, List.getElem_cons_zero, List.setIfInBounds_toArray, List.set_cons_zero, List.set_cons_succ]
                  refine wpAnyH_take (i := 12) (v := .pointer (some ⟨g, 41, none⟩)) rfl (by kernel_rfl) (by kernel_rfl) (by kernel_rfl) (fun _ _ _ h => h) (Or.inl ⟨by rfl, fun w h => by go_simp⟩) hHeld ?_
                  try simp only [Act.put, List.getElem_toArray, List.getElem_cons_succ, List.getElem_cons_zero, List.setIfInBounds_toArray, List.set_cons_zero, List.set_cons_succ]
                  refine wpAnyH_ready (rs := [13]) (by kernel_rfl) (by simp) (AllReadyH.cons rfl (fun K hK => ?_) AllReadyH.nil)
                  go_simp
                  refine hK.out _ _ trivial (fun hHeld => ?_)
                  clear hK K
                  try simp only [Act.put, List.getElem_toArray, List.getElem_cons_succ, List.getElem_cons_zero, List.setIfInBounds_toArray, List.set_cons_zero, List.set_cons_succ]
                  refine wpAnyH_take (i := 16) (v := .pointer (some ⟨g, 39, none⟩)) rfl (by kernel_rfl) (by kernel_rfl) (by kernel_rfl) (fun _ _ _ h => h) (Or.inl ⟨by rfl, fun w h => by go_simp⟩) hHeld ?_
                  try simp only [Act.put, List.getElem_toArray, List.getElem_cons_succ, List.getElem_cons_zero, List.setIfInBounds_toArray, List.set_cons_zero, List.set_cons_succ]
                  refine wpAnyH_ready (rs := [17]) (by kernel_rfl) (by simp) (AllReadyH.cons rfl (fun K hK => ?_) AllReadyH.nil)
                  go_simp
                  refine hK.out _ _ trivial (fun hHeld => ?_)
                  clear hK K
                  try simp only [Act.put, List.getElem_toArray, List.getElem_cons_succ, List.getElem_cons_zero, List.setIfInBounds_toArray, List.set_cons_zero, List.set_cons_succ]
                  refine wpAnyH_done (by kernel_rfl) ?_ _
                  try simp only [Act.put, List.getElem_toArray, List.getElem_cons_succ, List.getElem_cons_zero]
                  clear p41 f41 p39 f39 hr5 hr6 hHeld
                  obtain ⟨U, hU⟩ : ∃ x, (V.setCell ⟨g, 41, none⟩ (.slice a5 n5 c5)).setCell ⟨g, 39, none⟩ (.slice a6 n6 c6) = x := ⟨_, rfl⟩
                  rw [hU] at HM6 HK6 HB6 ⊢
                  clear hU
                  go_upto_region 10 with (fail)
                  have hmX := HM6.out.drew
                  have hkX := HK6.out.drew
                  have hbX : BS U.drew (some ⟨bk, bo, none⟩) n ic b := HB6.out.drew
                  obtain ⟨X, hX⟩ : ∃ x, U.drew = x := ⟨_, rfl⟩
                  rw [hX] at hmX hkX hbX
                  have e0x := cell_of hbX 0 x0 hx0
                  rw [Nat.add_zero] at e0x
                  obtain ⟨hw7, hr7⟩ := runK_h hbX .i64 m hmn
                  obtain ⟨a8, hp8, hr8⟩ := runK_lh hbX 4 m h4m hmn
                  obtain ⟨n8, hn8⟩ : ∃ x, m - 4 = x := ⟨_, rfl⟩
                  obtain ⟨c8, hc8⟩ : ∃ x, ic - 4 = x := ⟨_, rfl⟩
                  rw [hn8, hc8] at hp8 hr8
                  have hr9 : ∀ W, (Instr.slice 22 (.slice (some ⟨bk, bo, none⟩) n ic) (some (.int .i64 4)) (some (.int .i64 (m : Int))) none).run Tryd.prog W = .ok (.slice a8 n8 c8) W := fun W => hr8 W
                  have hm8 : m = 4 + n8 := by omega
                  have hstep := HS6.out
                  rw [hn8] at hstep
                  obtain ⟨wh, hwh⟩ : ∃ x, b.take m = x := ⟨_, rfl⟩
                  obtain ⟨pp, hpp⟩ : ∃ x, (b.drop 4).take n8 = x := ⟨_, rfl⟩
                  obtain ⟨R, hRR⟩ : ∃ x, takeM S6 x0.toNat wh pp = x := ⟨_, rfl⟩
                  rw [hwh] at hw7 hstep
                  rw [hpp] at hp8 hstep
                  rw [hRR] at hstep
                  have hwl : wh.length = m := BS.len hw7
                  obtain ⟨q1, q2, q3, q4, q5, q6⟩ := HG1.out
                  have hgr := Gr.take S6 hmX.ok.rnd (by rw [q5]; exact hpar) x0.toNat wh pp
                  have hnl : S1.nx.length = nx.length + 1 := by rw [HNX.out, List.length_cons]
                  have htk := gtake_any X hmX hw7 hp8 hm8 (fun ad h => by cases h; exact hbne) (by omega) (by rw [q1]; omega) (by rw [q2]; omega) (by rw [q3]; omega) (by rw [q4]; exact hc) (by rw [q5]; exact hpar) (HK.out.kpt hkX hR) (HK.out.role hkX hR) x0.toNat t0
                  rw [hRR] at htk hgr
                  have Htk := Lib.hid htk
                  have HGr := Lib.hid hgr
                  have HKX := Lib.hid hkX
                  have HST2 := Lib.hid hstep
                  have HQ := Lib.hid (And.intro hwl (And.intro hnl hm8))
                  clear htk hgr hkX hmX hbX hw7 hp8 hr8 hn8 hc8 hm8 hstep hwh hpp hRR hwl hnl q1 q2 q3 q4 q5 q6
                  refine wp_region_held_drew (S := fun _ => True) (by kernel_rfl) trivial (fun hHeld => ?_)
                  rw [hX]
                  clear hX
                  refine wpAnyH_take (i := 0) (v := .pointer (some ⟨g, 0, none⟩)) rfl (by kernel_rfl) (by kernel_rfl) (by kernel_rfl) (fun _ _ _ h => h) (Or.inl ⟨by rfl, fun w h => by go_simp⟩) hHeld ?_
                  try simp only [Act.put, List.getElem_toArray, List.getElem_cons_zero, List.setIfInBounds_toArray, List.set_cons_zero, List.set_cons_succ]
                  refine wpAnyH_take (i := 1) (v := .pointer (some ⟨g, 0, none⟩)) rfl (by kernel_rfl) (by kernel_rfl) (by kernel_rfl) (fun _ _ _ h => h) (Or.inl ⟨by rfl, fun w h => by go_simp⟩) hHeld ?_
                  try simp only [Act.put, List.getElem_toArray, List.getElem_cons_succ, List.getElem_cons_zero, List.setIfInBounds_toArray, List.set_cons_zero, List.set_cons_succ]
                  refine wpAnyH_take (i := 2) (v := .slice (some ⟨bk, bo, none⟩) n ic) rfl (by kernel_rfl) (by kernel_rfl) (by kernel_rfl) (fun _ _ _ h => h) (Or.inl ⟨by rfl, fun w h => by go_simp⟩) hHeld ?_
                  try simp only [Act.put, List.getElem_toArray, List.getElem_cons_succ, List.getElem_cons_zero, List.setIfInBounds_toArray, List.set_cons_zero, List.set_cons_succ]
                  refine wpAnyH_take (i := 3) (v := .pointer (some ⟨bk, bo, none⟩)) rfl (by kernel_rfl) (by kernel_rfl) (by kernel_rfl) (fun _ _ _ h => h) (Or.inl ⟨by rfl, fun w h => by go_simp⟩) hHeld ?_
                  try simp only [Act.put, List.getElem_toArray, List.getElem_cons_succ, List.getElem_cons_zero, List.setIfInBounds_toArray, List.set_cons_zero, List.set_cons_succ]
                  refine wpAnyH_take (i := 5) (v := .slice (some ⟨bk, bo, none⟩) n ic) rfl (by kernel_rfl) (by kernel_rfl) (by kernel_rfl) (fun _ _ _ h => h) (Or.inl ⟨by rfl, fun w h => by go_simp⟩) hHeld ?_
                  try simp only [Act.put, List.getElem_toArray, List.getElem_cons_succ, List.getElem_cons_zero, List.setIfInBounds_toArray, List.set_cons_zero, List.set_cons_succ]
                  refine wpAnyH_take (i := 6) (v := .int .i64 (m : Int)) rfl (by kernel_rfl) (by kernel_rfl) (by kernel_rfl) (fun _ _ _ h => h) (Or.inl ⟨by rfl, fun w h => by go_simp⟩) hHeld ?_
                  try simp only [Act.put, List.getElem_toArray, List.getElem_cons_succ, List.getElem_cons_zero, List.setIfInBounds_toArray, List.set_cons_zero, List.set_cons_succ]
                  refine wpAnyH_take (i := 7) (v := .slice (some ⟨bk, bo, none⟩) m ic) rfl (by kernel_rfl) (by kernel_rfl) (by kernel_rfl) (fun _ _ _ h => h) (Or.inl ⟨by rfl, fun w h => by go_simp⟩) hHeld ?_
                  try simp only [Act.put, List.getElem_toArray, List.getElem_cons_succ, List.getElem_cons_zero, List.setIfInBounds_toArray, List.set_cons_zero, List.set_cons_succ]
                  refine wpAnyH_take (i := 8) (v := .slice (some ⟨bk, bo, none⟩) n ic) rfl (by kernel_rfl) (by kernel_rfl) (by kernel_rfl) (fun _ _ _ h => h) (Or.inl ⟨by rfl, fun w h => by go_simp⟩) hHeld ?_
                  try simp only [Act.put, List.getElem_toArray, List.getElem_cons_succ, List.getElem_cons_zero, List.setIfInBounds_toArray, List.set_cons_zero, List.set_cons_succ]
                  refine wpAnyH_take (i := 9) (v := .int .i64 (m : Int)) rfl (by kernel_rfl) (by kernel_rfl) (by kernel_rfl) (fun _ _ _ h => h) (Or.inl ⟨by rfl, fun w h => by go_simp⟩) hHeld ?_
                  try simp only [Act.put, List.getElem_toArray, List.getElem_cons_succ, List.getElem_cons_zero, List.setIfInBounds_toArray, List.set_cons_zero, List.set_cons_succ]
                  refine wpAnyH_take (i := 10) (v := .slice a8 n8 c8) rfl (by kernel_rfl) (by kernel_rfl) (by kernel_rfl) (fun _ _ _ h => h) (Or.inl ⟨by rfl, fun w h => by go_simp⟩) hHeld ?_
                  try simp only [Act.put, List.getElem_toArray, List.getElem_cons_succ, List.getElem_cons_zero, List.setIfInBounds_toArray, List.set_cons_zero, List.set_cons_succ]
                  refine wpAnyH_ready (rs := [4]) (by kernel_rfl) (by simp) (AllReadyH.cons rfl (fun K hK => ?_) AllReadyH.nil)
                  go_simp
                  refine hK.out _ _ trivial (fun hHeld => ?_)
                  clear hK K
                  try simp only [Act.put, List.getElem_toArray, List.getElem_cons_succ, List.getElem_cons_zero, List.setIfInBounds_toArray, List.set_cons_zero, List.set_cons_succ]
                  refine wpAnyH_ready (rs := [11]) (by kernel_rfl) (by simp) (AllReadyH.cons rfl (fun K hK => ?_) AllReadyH.nil)
                  go_simp
                  go_at_call 47
                  refine Htk.out.mono ?_
                  rintro x w9 ⟨rfl, role9, A9, hm9, hk9⟩
                  have p272 : w9.cell? ⟨g, 272, none⟩ = some (.int .u64 (R.1.wrong : Int)) := (hm9.row.cells hm9.ok).g272
                  have f272 := hm9.row.fr 272
                  have HM9 := Lib.hid hm9
                  have HK9 := Lib.hid hk9
                  clear hm9 hk9
                  refine hK.out _ _ trivial (fun hHeld => ?_)
                  clear hK K
                  try simp only [Act.put, List.getElem_toArray, List.getElem_cons_succ, List.getElem_cons_zero, List.setIfInBounds_toArray, List.set_cons_zero, List.set_cons_succ]
                  refine wpAnyH_take (i := 12) (v := .pointer (some ⟨g, 0, none⟩)) rfl (by kernel_rfl) (by kernel_rfl) (by kernel_rfl) (fun _ _ _ h => h) (Or.inl ⟨by rfl, fun w h => by go_simp⟩) hHeld ?_
                  try simp only [Act.put, List.getElem_toArray, List.getElem_cons_succ, List.getElem_cons_zero, List.setIfInBounds_toArray, List.set_cons_zero, List.set_cons_succ]
                  refine wpAnyH_take (i := 13) (v := .pointer (some ⟨g, 272, none⟩)) rfl (by kernel_rfl) (by kernel_rfl) (by kernel_rfl) (fun _ _ _ h => h) (Or.inl ⟨by rfl, fun w h => by go_simp⟩) hHeld ?_
                  try simp only [Act.put, List.getElem_toArray, List.getElem_cons_succ, List.getElem_cons_zero, List.setIfInBounds_toArray, List.set_cons_zero, List.set_cons_succ]
                  refine wpAnyH_ready (rs := [14]) (by kernel_rfl) (by simp) (AllReadyH.cons rfl (fun K hK => ?_) AllReadyH.nil)
                  go_simp
                  refine hK.out _ _ trivial (fun hHeld => ?_)
                  clear hK K
                  try simp only [Act.put, List.getElem_toArray, List.getElem_cons_succ, List.getElem_cons_zero, List.setIfInBounds_toArray, List.set_cons_zero, List.set_cons_succ]
                  refine wpAnyH_done (by kernel_rfl) ?_ _
                  try simp only [Act.put, List.getElem_toArray, List.getElem_cons_succ, List.getElem_cons_zero]
                  obtain ⟨hmw, hkw⟩ := HM9.out.set_wrong R.2
                  have HMW := Lib.hid hmw
                  have HKW := Lib.hid ((HKX.out.trans HK9.out).trans hkw)
                  clear hmw hkw hHeld p272 f272 hr7 hr9 e0x
                  go_wp2
                  have q41r : wr.cell? ⟨g, 41, none⟩ = some (.slice A1.nx.a A1.nx.n A1.nx.c) := (HM.out.row.cells hOk).g41
                  have q41e := (HMW.out.row.cells HMW.out.ok).g41
                  have hgr := HGr.out
                  obtain ⟨hwl, hnl, hm8⟩ := HQ.out
                  obtain ⟨q1, q2, q3, q4, q5, q6⟩ := HG1.out
                  have hn9 : A9.nx.n * 2 = (tcells R.1.nx).length := HMW.out.gp.nx.len.symm
                  rw [hgr.nx, q6, tlen] at hn9
                  have hsd := hgr.said
                  have ho0' := hgr.o0
                  have ho1' := hgr.o1
                  rw [q1, hwl] at hsd
                  rw [q2, hwl] at ho0'
                  rw [q3, hwl] at ho1'
                  refine ⟨⟨role9, { R.1 with wrong := R.2 }, A9, HMW.out, HKW.out, ?_, ?_, ?_, ?_, ?_, ?_⟩, ?_⟩
                  · show readM 0 (R.1.nx.length + 1) _ = RES
                    rw [hgr.nx, q6]; exact HST2.out
                  · show R.1.said.length + R.1.nx.length * 1000000000 ≤ _
                    rw [hgr.nx, q6]; omega
                  · show R.1.o0.length + R.1.nx.length * 1000000000 ≤ _
                    rw [hgr.nx, q6]; omega
                  · show R.1.o1.length + R.1.nx.length * 1000000000 ≤ _
                    rw [hgr.nx, q6]; omega
                  · show R.1.sec.length ≤ _
                    rw [hgr.sec, q4]; exact hc
                  · show R.1.par.length ≤ _
                    rw [hgr.par, q5]; exact hpar
                  · rw [q41r, q41e]
                    show A9.nx.n < A1.nx.n
                    rw [HNN.out]
                    have := HNL.out
                    omega
              · rw [if_pos (by rw [hg0]; intro h; injection h with h1 h2; exact hy ⟨h1, h2⟩)] at hstep
                have HF := Lib.hid (show RES = { S1 with wrong := 266 } by rw [← hstep, hnx])
                have hne := fun W => neqw W (y1 : Int) (y2 : Int) (x0.toNat : Int) 0 (fun h => hy ⟨by omega, by omega⟩)
                clear hstep hnx hy
                go_quiet (fail)
                generalize hws : World.drewN wq _ = ws
                have hms : GM ws role1 g S1 A1 := by rw [← hws]; exact HMq.out.drewN _
                have hks : Kpt w ws role role1 := by rw [← hws]; exact HKq.out.drewN _
                have r272 : ws.cell? ⟨g, 272, none⟩ = some (.int .u64 (S1.wrong : Int)) := (hms.row.cells hOk).g272
                have f272 := hms.row.fr 272
                obtain ⟨hmw, hkw⟩ := hms.set_wrong 266
                have HMW := Lib.hid hmw
                have HKW := Lib.hid (hks.trans hkw)
                clear hmw hkw hms hks hws
                go_wp2
                (try simp only [Exit.inBlock, Exit.then]); refine bodyPost_ret (results_none rfl _ _ _) rfl ?_
                first | exact ⟨rfl, role1, A1, by rw [HF.out]; exact HMW.out, HKW.out⟩ | exact ⟨rfl, role1, ⟨A1, by rw [HF.out]; exact HMW.out⟩, HKW.out⟩
        · have h4' : decide ((4 : Int) ≤ (n : Int)) = false := decide_eq_false (by omega)
          rw [if_neg (by omega)] at hstep
          go_quiet (fail)
          generalize hwq : World.drewN wr _ = wq
          have HMq := Lib.hid (show GM wq role1 g S1 A1 by rw [← hwq]; exact HM.out.drewN _)
          have HKq := Lib.hid (show Kpt w wq role role1 by rw [← hwq]; exact HKP.out.drewN _)
          have HBq := Lib.hid (show BS wq (some ⟨bk, bo, none⟩) n ic b by rw [← hwq]; exact HBS.out.drewN _)
          have e0 := cell_of HBq.out 0 x0 hx0
          rw [Nat.add_zero] at e0
          clear hwq hcell k0
          go_upto_region 4 with (fail)
          have q41 : wq.cell? ⟨g, 41, none⟩ = some (.slice A1.nx.a A1.nx.n A1.nx.c) := (HMq.out.row.cells hOk).g41
          have hnl : A1.nx.n * 2 = (tcells S1.nx).length := HMq.out.gp.nx.len.symm
          have hnr := HMq.out.gp.nx
          cases hnx : S1.nx with
          | nil =>
            rw [hnx] at hnl hstep
            dsimp only at hstep
            have hn0 : A1.nx.n = 0 := by rw [tlen, List.length_nil] at hnl; omega
            rw [hn0] at q41
            have HF := Lib.hid (show RES = { S1 with wrong := 266 } by rw [← hstep, hnx])
            clear hnl hnr hstep hnx hn0
            go_quiet (fail)
            generalize hws : World.drewN wq _ = ws
            have hms : GM ws role1 g S1 A1 := by rw [← hws]; exact HMq.out.drewN _
            have hks : Kpt w ws role role1 := by rw [← hws]; exact HKq.out.drewN _
            have r272 : ws.cell? ⟨g, 272, none⟩ = some (.int .u64 (S1.wrong : Int)) := (hms.row.cells hOk).g272
            have f272 := hms.row.fr 272
            obtain ⟨hmw, hkw⟩ := hms.set_wrong 266
            have HMW := Lib.hid hmw
            have HKW := Lib.hid (hks.trans hkw)
            clear hmw hkw hms hks hws
            go_wp2
            (try simp only [Exit.inBlock, Exit.then]); refine bodyPost_ret (results_none rfl _ _ _) rfl ?_
            first | exact ⟨rfl, role1, A1, by rw [HF.out]; exact HMW.out, HKW.out⟩ | exact ⟨rfl, role1, ⟨A1, by rw [HF.out]; exact HMW.out⟩, HKW.out⟩
          | cons x nx =>
            rw [hnx] at hnl hstep hnr
            dsimp only at hstep
            obtain ⟨y1, y2⟩ := x
            have hnn : A1.nx.n = nx.length + 1 := by rw [tlen, List.length_cons] at hnl; omega
            obtain ⟨na, hna⟩ : ∃ v, A1.nx.a = v := ⟨_, rfl⟩
            obtain ⟨nn, hnn'⟩ : ∃ v, A1.nx.n = v := ⟨_, rfl⟩
            obtain ⟨nc, hnc⟩ : ∃ v, A1.nx.c = v := ⟨_, rfl⟩
            rw [hna, hnn', hnc] at q41 hnr
            rw [hnn'] at hnn
            have hnp : 0 < nn := by omega
            have hnpi : 0 < (nn : Int) := by omega
            obtain ⟨nk, no, rfl, hy1, hy2⟩ := tat hnr
            have HNA := Lib.hid hna
            have HNN := Lib.hid hnn'
            have HNC := Lib.hid hnc
            have HNR := Lib.hid hnr
            have HNL := Lib.hid hnn
            have hz : ((nn : Int) == 0) = false := by simp; omega
            have hz2 : decide ((nn : Int) = 0) = false := decide_eq_false (by omega)
            clear hnl hnr hnn hna hnn' hnc
            by_cases hy : y1 = x0.toNat ∧ y2 = 0
            · obtain ⟨rfl, rfl⟩ := hy
              rw [if_neg (by rw [hg0]; simp)] at hstep
              have HST := Lib.hid hstep
              have HNX := Lib.hid hnx
              clear hstep hnx
              go_quiet (fail)
              generalize hws : World.drewN wq _ = ws
              have hms : GM ws role1 g S1 A1 := by rw [← hws]; exact HMq.out.drewN _
              have hks : Kpt w ws role role1 := by rw [← hws]; exact HKq.out.drewN _
              have hbs : BS ws (some ⟨bk, bo, none⟩) n ic b := by rw [← hws]; exact HBq.out.drewN _
              have HMs := Lib.hid hms
              have HKs := Lib.hid hks
              have HBs := Lib.hid hbs
              clear hms hks hbs hws
              have h4j : (n : Int) < 4 := by omega
              have hstep := HST.out
              rw [if_pos (by omega)] at hstep
              have HF := Lib.hid (show RES = S1 from hstep.symm)
              clear hstep
              go_wp2
              (try simp only [Exit.inBlock, Exit.then]); refine bodyPost_ret (results_none rfl _ _ _) rfl ?_
              first | exact ⟨rfl, role1, A1, by rw [HF.out]; exact HMs.out, HKs.out⟩ | exact ⟨rfl, role1, ⟨A1, by rw [HF.out]; exact HMs.out⟩, HKs.out⟩
            · rw [if_pos (by rw [hg0]; intro h; injection h with h1 h2; exact hy ⟨h1, h2⟩)] at hstep
              have HF := Lib.hid (show RES = { S1 with wrong := 266 } by rw [← hstep, hnx])
              have hne := fun W => neqw W (y1 : Int) (y2 : Int) (x0.toNat : Int) 0 (fun h => hy ⟨by omega, by omega⟩)
              clear hstep hnx hy
              go_quiet (fail)
              generalize hws : World.drewN wq _ = ws
              have hms : GM ws role1 g S1 A1 := by rw [← hws]; exact HMq.out.drewN _
              have hks : Kpt w ws role role1 := by rw [← hws]; exact HKq.out.drewN _
              have r272 : ws.cell? ⟨g, 272, none⟩ = some (.int .u64 (S1.wrong : Int)) := (hms.row.cells hOk).g272
              have f272 := hms.row.fr 272
              obtain ⟨hmw, hkw⟩ := hms.set_wrong 266
              have HMW := Lib.hid hmw
              have HKW := Lib.hid (hks.trans hkw)
              clear hmw hkw hms hks hws
              go_wp2
              (try simp only [Exit.inBlock, Exit.then]); refine bodyPost_ret (results_none rfl _ _ _) rfl ?_
              first | exact ⟨rfl, role1, A1, by rw [HF.out]; exact HMW.out, HKW.out⟩ | exact ⟨rfl, role1, ⟨A1, by rw [HF.out]; exact HMW.out⟩, HKW.out⟩
    · have hwi : ((S1.wrong : Int) == 0) = false := by simp; omega
      have hfin : RES = S1 := by rw [← HRES.out]; unfold readM; rw [if_pos (.inl hw)]
      have HF := Lib.hid hfin
      clear hw hfin
      go_wp2
      go_end0
      first | exact ⟨rfl, role1, A1, by rw [HF.out]; exact HM.out, HKP.out⟩ | exact ⟨rfl, role1, ⟨A1, by rw [HF.out]; exact HM.out⟩, HKP.out⟩
end Go.Proofs.YtkhcpnmbhbhcgaaDoor

/- (*greet.Machine).read. -/
set_option maxRecDepth 100000
set_option linter.unusedVariables false
namespace Go.Proofs.YtkhcpnmbhbhcgaaDoor
open Go.RowKit Go.Joins
set_option maxHeartbeats 4000000 in
theorem gread_1 (w : World) {role : Nat → Nat} {g : Nat} {S : MS} {A : MA} (hM : GM w role g S A)
    (hs : S.said.length + S.nx.length * 1000000000 ≤ 274877906944) (ho0 : S.o0.length + S.nx.length * 1000000000 ≤ 274877906944) (ho1 : S.o1.length + S.nx.length * 1000000000 ≤ 274877906944) (hc : S.sec.length ≤ 274877906944) (hpar : S.par.length ≤ 600) (hK : KT w) (hR : role 3 = 0) :
    Calls Tryd.prog 27 #[.pointer (some ⟨g, 0, none⟩), .int .i64 1] w fun e w' => e = .returned (.tuple #[]) ∧ ∃ role' A', GM w' role' g (readM 1 (S.nx.length + 1) S) A' ∧ Kpt w w' role role' := by
  obtain ⟨RES, hRES⟩ : ∃ x, readM 1 (S.nx.length + 1) S = x := ⟨_, rfl⟩
  rw [hRES]
  have HK := Lib.hid hK
  have HRS := Lib.hid (show ∃ role' S' A', GM w role' g S' A' ∧ Kpt w w role role' ∧ readM 1 (S'.nx.length + 1) S' = RES ∧ S'.said.length + S'.nx.length * 1000000000 ≤ 274877906944 ∧ S'.o0.length + S'.nx.length * 1000000000 ≤ 274877906944 ∧ S'.o1.length + S'.nx.length * 1000000000 ≤ 274877906944 ∧ S'.sec.length ≤ 274877906944 ∧ S'.par.length ≤ 600 from ⟨role, S, A, hM, Kpt.refl w role hM.gp.top, hRES, hs, ho0, ho1, hc, hpar⟩)
  clear hM hs ho0 ho1 hc hpar hRES hK
  go_enter Tryd.func27, Tryd.ntmps27
  go_wp2
  go_loopw [4] (fun s4 wr => ∃ role' S' A', GM wr role' g S' A' ∧ Kpt w wr role role' ∧ readM 1 (S'.nx.length + 1) S' = RES ∧ S'.said.length + S'.nx.length * 1000000000 ≤ 274877906944 ∧ S'.o0.length + S'.nx.length * 1000000000 ≤ 274877906944 ∧ S'.o1.length + S'.nx.length * 1000000000 ≤ 274877906944 ∧ S'.sec.length ≤ 274877906944 ∧ S'.par.length ≤ 600) (fun _ wr => match wr.cell? ⟨g, 41, none⟩ with | some (.slice _ n _) => n | _ => 0)
  case atStart => exact HRS.out
  case round =>
    clear HRS
    obtain ⟨role1, S1, A1, hM, hk, hres, hs, ho0, ho1, hc, hpar⟩ := hrel
    have HM := Lib.hid hM
    have HKP := Lib.hid hk
    have HRES := Lib.hid hres
    have hOk := hM.ok
    have q272 : wr.cell? ⟨g, 272, none⟩ = some (.int .u64 (S1.wrong : Int)) := (hM.row.cells hOk).g272
    have qI : wr.cell? ⟨g, 40, none⟩ = some (.slice A1.i1.a A1.i1.n A1.i1.c) := (hM.row.cells hOk).g40
    have hbs : BS wr A1.i1.a A1.i1.n A1.i1.c S1.i1 := hM.gp.i1.rs
    have hlen := BS.len hbs
    obtain ⟨b, hb⟩ : ∃ x, S1.i1 = x := ⟨_, rfl⟩
    obtain ⟨ia, hia⟩ : ∃ x, A1.i1.a = x := ⟨_, rfl⟩
    obtain ⟨n, hn⟩ : ∃ x, A1.i1.n = x := ⟨_, rfl⟩
    obtain ⟨ic, hic⟩ : ∃ x, A1.i1.c = x := ⟨_, rfl⟩
    rw [hia, hn, hic] at qI hbs
    rw [hn] at hlen
    rw [hb] at hbs hlen
    have HB := Lib.hid hb
    have HBS := Lib.hid hbs
    have HL := Lib.hid hlen
    have HIA := Lib.hid hia
    have HIN := Lib.hid hn
    have HIC := Lib.hid hic
    clear hM hk hres hbs hlen hb hia hn hic
    by_cases hw : S1.wrong = 0
    · have hwi : ((S1.wrong : Int) == 0) = true := by simp [hw]
      by_cases h0 : n = 0
      · have hfin : RES = S1 := by
          rw [← HRES.out]; unfold readM
          have hbn : b = [] := List.eq_nil_of_length_eq_zero (by rw [HL.out]; exact h0)
          rw [if_pos (.inr (by show inS 1 S1 = []; unfold inS; rw [if_neg (by decide), HB.out, hbn]))]
        have HF := Lib.hid hfin
        have h0' : ¬ (0 < (n : Int)) := by omega
        clear hfin hw h0
        go_wp2
        go_end0
        first | exact ⟨rfl, role1, A1, by rw [HF.out]; exact HM.out, HKP.out⟩ | exact ⟨rfl, role1, ⟨A1, by rw [HF.out]; exact HM.out⟩, HKP.out⟩
      · have h0' : 0 < (n : Int) := by omega
        obtain ⟨bk, bo, rfl, hcell⟩ := HBS.out.at_ (by omega)
        obtain ⟨x0, hx0⟩ : ∃ x, b[0]? = some x := ⟨_, List.getElem?_eq_getElem (by rw [HL.out]; omega)⟩
        have k0 := hcell 0 x0 hx0
        rw [Nat.add_zero] at k0
        have t0 := x0.toNat_lt
        have hg0 : b.getD 0 0 = x0 := by rw [List.getD_eq_getElem?_getD, hx0]; rfl
        have hin : inS 1 S1 = b := by unfold inS; rw [if_neg (by decide)]; exact HB.out
        have hstep := HRES.out
        unfold readM at hstep
        rw [hin, if_neg (by intro h; rcases h with h | h; exact h hw; rw [h] at hx0; cases hx0)] at hstep
        rw [HL.out] at hstep
        clear hin hw h0
        go_upto_region 2 with (fail)
        by_cases h4 : 4 ≤ n
        · have h4' : (4 : Int) ≤ (n : Int) := by omega
          obtain ⟨x1, hx1⟩ : ∃ x, b[1]? = some x := ⟨_, List.getElem?_eq_getElem (by rw [HL.out]; omega)⟩
          obtain ⟨x2, hx2⟩ : ∃ x, b[2]? = some x := ⟨_, List.getElem?_eq_getElem (by rw [HL.out]; omega)⟩
          obtain ⟨x3, hx3⟩ : ∃ x, b[3]? = some x := ⟨_, List.getElem?_eq_getElem (by rw [HL.out]; omega)⟩
          have k1 := hcell 1 x1 hx1
          have k2 := hcell 2 x2 hx2
          have k3 := hcell 3 x3 hx3
          have t1 := x1.toNat_lt
          have t2 := x2.toNat_lt
          have t3 := x3.toNat_lt
          have hlg : lenG b = x1.toNat * 65536 + x2.toNat * 256 + x3.toNat := by unfold lenG; simp only [List.getD_eq_getElem?_getD, hx1, hx2, hx3, Option.getD_some]
          have hl2 : len2 b = 4 + (x2.toNat * 256 + x3.toNat) := by unfold len2; simp only [List.getD_eq_getElem?_getD, hx2, hx3, Option.getD_some]
          obtain ⟨L, hL⟩ : ∃ L, x1.toNat * 65536 + x2.toNat * 256 + x3.toNat = L := ⟨_, rfl⟩
          have ho := or_len x1.toNat x2.toNat x3.toNat t1 t2 t3
          rw [hL] at ho hlg
          clear hx1
          by_cases hbig : 1024 < L
          · have hbig' : 1024 < (L : Int) := by omega
            have HF := Lib.hid (show RES = { S1 with wrong := 306 } by rw [← hstep, if_pos ⟨h4, by omega⟩])
            clear hstep
            go_quiet (fail)
            generalize hwq : World.drewN wr _ = wq
            have hmq : GM wq role1 g S1 A1 := by rw [← hwq]; exact HM.out.drewN _
            have hkq : Kpt w wq role role1 := by rw [← hwq]; exact HKP.out.drewN _
            have r272 : wq.cell? ⟨g, 272, none⟩ = some (.int .u64 (S1.wrong : Int)) := (hmq.row.cells hOk).g272
            have f272 := hmq.row.fr 272
            obtain ⟨hmw, hkw⟩ := hmq.set_wrong 306
            have HMW := Lib.hid hmw
            have HKW := Lib.hid (hkq.trans hkw)
            clear hmw hkw hmq hkq hwq
            go_wp2
            (try simp only [Exit.inBlock, Exit.then]); refine bodyPost_ret (results_none rfl _ _ _) rfl ?_
            first | exact ⟨rfl, role1, A1, by rw [HF.out]; exact HMW.out, HKW.out⟩ | exact ⟨rfl, role1, ⟨A1, by rw [HF.out]; exact HMW.out⟩, HKW.out⟩
          · have hnb : ¬ (1024 < (L : Int)) := by omega
            rw [if_neg (by rw [hlg]; omega)] at hstep
            go_quiet (fail)
            generalize hwq : World.drewN wr _ = wq
            have hmq : GM wq role1 g S1 A1 := by rw [← hwq]; exact HM.out.drewN _
            have hkq : Kpt w wq role role1 := by rw [← hwq]; exact HKP.out.drewN _
            have hbq : BS wq (some ⟨bk, bo, none⟩) n ic b := by rw [← hwq]; exact HBS.out.drewN _
            have HMq := Lib.hid hmq
            have HKq := Lib.hid hkq
            have HBq := Lib.hid hbq
            have e0 := (cell_of hbq 0 x0 hx0)
            have e2 := (cell_of hbq 2 x2 hx2)
            have e3 := (cell_of hbq 3 x3 hx3)
            rw [Nat.add_zero] at e0
            clear hmq hkq hbq hwq k0 k1 k2 k3 hcell
            go_upto_region 4 with (fail)
            have q41 : wq.cell? ⟨g, 41, none⟩ = some (.slice A1.nx.a A1.nx.n A1.nx.c) := (HMq.out.row.cells hOk).g41
            have hnl : A1.nx.n * 2 = (tcells S1.nx).length := HMq.out.gp.nx.len.symm
            have hnr := HMq.out.gp.nx
            cases hnx : S1.nx with
            | nil =>
              rw [hnx] at hnl hstep
              dsimp only at hstep
              have hn0 : A1.nx.n = 0 := by rw [tlen, List.length_nil] at hnl; omega
              rw [hn0] at q41
              have HF := Lib.hid (show RES = { S1 with wrong := 266 } by rw [← hstep, hnx])
              clear hnl hnr hstep hnx hn0
              go_quiet (fail)
              generalize hws : World.drewN wq _ = ws
              have hms : GM ws role1 g S1 A1 := by rw [← hws]; exact HMq.out.drewN _
              have hks : Kpt w ws role role1 := by rw [← hws]; exact HKq.out.drewN _
              have r272 : ws.cell? ⟨g, 272, none⟩ = some (.int .u64 (S1.wrong : Int)) := (hms.row.cells hOk).g272
              have f272 := hms.row.fr 272
              obtain ⟨hmw, hkw⟩ := hms.set_wrong 266
              have HMW := Lib.hid hmw
              have HKW := Lib.hid (hks.trans hkw)
              clear hmw hkw hms hks hws
              go_wp2
              (try simp only [Exit.inBlock, Exit.then]); refine bodyPost_ret (results_none rfl _ _ _) rfl ?_
              first | exact ⟨rfl, role1, A1, by rw [HF.out]; exact HMW.out, HKW.out⟩ | exact ⟨rfl, role1, ⟨A1, by rw [HF.out]; exact HMW.out⟩, HKW.out⟩
            | cons x nx =>
              rw [hnx] at hnl hstep hnr
              dsimp only at hstep
              obtain ⟨y1, y2⟩ := x
              have hnn : A1.nx.n = nx.length + 1 := by rw [tlen, List.length_cons] at hnl; omega
              obtain ⟨na, hna⟩ : ∃ v, A1.nx.a = v := ⟨_, rfl⟩
              obtain ⟨nn, hnn'⟩ : ∃ v, A1.nx.n = v := ⟨_, rfl⟩
              obtain ⟨nc, hnc⟩ : ∃ v, A1.nx.c = v := ⟨_, rfl⟩
              rw [hna, hnn', hnc] at q41 hnr
              rw [hnn'] at hnn
              have hnp : 0 < nn := by omega
              have hnpi : 0 < (nn : Int) := by omega
              obtain ⟨nk, no, rfl, hy1, hy2⟩ := tat hnr
              have HNA := Lib.hid hna
              have HNN := Lib.hid hnn'
              have HNC := Lib.hid hnc
              have HNR := Lib.hid hnr
              have HNL := Lib.hid hnn
              have hz : ((nn : Int) == 0) = false := by simp; omega
              have hz2 : decide ((nn : Int) = 0) = false := decide_eq_false (by omega)
              clear hnl hnr hnn hna hnn' hnc
              by_cases hy : y1 = x0.toNat ∧ y2 = 1
              · obtain ⟨rfl, rfl⟩ := hy
                rw [if_neg (by rw [hg0]; simp)] at hstep
                have HST := Lib.hid hstep
                have HNX := Lib.hid hnx
                clear hstep hnx
                go_quiet (fail)
                generalize hws : World.drewN wq _ = ws
                have hms : GM ws role1 g S1 A1 := by rw [← hws]; exact HMq.out.drewN _
                have hks : Kpt w ws role role1 := by rw [← hws]; exact HKq.out.drewN _
                have hbs : BS ws (some ⟨bk, bo, none⟩) n ic b := by rw [← hws]; exact HBq.out.drewN _
                have HMs := Lib.hid hms
                have HKs := Lib.hid hks
                have HBs := Lib.hid hbs
                clear hms hks hbs hws
                have e0s := cell_of HBs.out 0 x0 hx0
                have e2s := cell_of HBs.out 2 x2 hx2
                have e3s := cell_of HBs.out 3 x3 hx3
                rw [Nat.add_zero] at e0s
                obtain ⟨N0, hN0⟩ : ∃ v, x2.toNat * 256 + x3.toNat = v := ⟨_, rfl⟩
                have hN0b : N0 < 65536 := by omega
                have ho2 := or_join x2.toNat x3.toNat (by omega) t3
                rw [hN0] at ho2 hl2
                have HL2 := Lib.hid hl2
                clear e0 e2 e3 hN0 hl2 hx2 hx3 ho hlg
                go_upto_region 7 with (fail)
                go_quiet (fail)
                generalize hwt : World.drewN ws _ = wt
                have HMt := Lib.hid (show GM wt role1 g S1 A1 by rw [← hwt]; exact HMs.out.drewN _)
                have HKt := Lib.hid (show Kpt w wt role role1 by rw [← hwt]; exact HKs.out.drewN _)
                have HBt := Lib.hid (show BS wt (some ⟨bk, bo, none⟩) n ic b by rw [← hwt]; exact HBs.out.drewN _)
                clear hwt e0s e2s e3s
                by_cases hfew : n < 4 + N0
                · have hfi : (n : Int) < 4 + (N0 : Int) := by omega
                  have hstep := HST.out
                  rw [if_neg (by omega), if_pos (by rw [HL2.out]; omega)] at hstep
                  have HF := Lib.hid (show RES = S1 from hstep.symm)
                  clear hstep hfew
                  go_wp2
                  (try simp only [Exit.inBlock, Exit.then]); refine bodyPost_ret (results_none rfl _ _ _) rfl ?_
                  first | exact ⟨rfl, role1, A1, by rw [HF.out]; exact HMt.out, HKt.out⟩ | exact ⟨rfl, role1, ⟨A1, by rw [HF.out]; exact HMt.out⟩, HKt.out⟩
                · have hfi : ¬ ((n : Int) < 4 + (N0 : Int)) := by omega
                  go_upto_region 9 with (fail)
                  obtain ⟨m, hm⟩ : ∃ v, 4 + N0 = v := ⟨_, rfl⟩
                  have hmi : 4 + (N0 : Int) = (m : Int) := by omega
                  rw [hmi]
                  have hmn : m ≤ n := by omega
                  have h4m : 4 ≤ m := by omega
                  have hmb : m ≤ 65540 := by omega
                  have hstep := HST.out
                  rw [if_neg (by omega), if_neg (by rw [HL2.out]; omega), HL2.out, hm, hg0, List.drop_take] at hstep
                  have hmV := HMt.out.drew
                  have hkV := HKt.out.drew
                  have hbV : BS wt.drew (some ⟨bk, bo, none⟩) n ic b := HBt.out.drew
                  obtain ⟨V, hV⟩ : ∃ x, wt.drew = x := ⟨_, rfl⟩
                  rw [hV] at hmV hkV hbV
                  have p41 : V.cell? ⟨g, 41, none⟩ = some (.slice (some ⟨nk, no, none⟩) nn nc) := by
                    have h := (hmV.row.cells hOk).g41
                    rw [← HNA.out, ← HNN.out, ← HNC.out]; exact h
                  have f41 := hmV.row.fr 41
                  have hbne : bk ≠ g := by
                    intro he
                    have h1 := HMt.out.gp.i1.rb ⟨bk, bo, none⟩ HIA.out
                    rw [he, HMt.out.gp.rg] at h1
                    omega
                  obtain ⟨a5, hr5, hm5, hk5⟩ := hmV.cut_nx HNX.out
                  obtain ⟨A5, hA5⟩ : ∃ x : MA, { A1 with nx := ⟨a5, A1.nx.n - 1, A1.nx.c - 1⟩ } = x := ⟨_, rfl⟩
                  have hA5i : A5.i1 = A1.i1 := by rw [← hA5]
                  obtain ⟨S5, hS5⟩ : ∃ x : MS, { S1 with nx := nx } = x := ⟨_, rfl⟩
                  rw [hA5, hS5] at hm5
                  rw [HNA.out, HNN.out, HNC.out] at hr5
                  rw [HNN.out, HNC.out] at hm5 hk5
                  have hi5 : S5.i1 = b := by rw [← hS5]; exact HB.out
                  have hOk5 := hm5.ok
                  obtain ⟨a6, hr6, hm6, hk6⟩ := hm5.cut_i1 m (by rw [hA5i, HIN.out]; exact hmn)
                  rw [hA5i, HIA.out, HIN.out, HIC.out] at hr6
                  rw [hA5i, HIN.out, HIC.out] at hm6 hk6
                  have p39 : (V.setCell ⟨g, 41, none⟩ (.slice a5 (nn - 1) (nc - 1))).cell? ⟨g, 40, none⟩ = some (.slice A5.i1.a A5.i1.n A5.i1.c) := (hm5.row.cells hOk5).g40
                  have f39 := hm5.row.fr 40
                  obtain ⟨n5, hn5⟩ : ∃ x, nn - 1 = x := ⟨_, rfl⟩
                  obtain ⟨c5, hc5⟩ : ∃ x, nc - 1 = x := ⟨_, rfl⟩
                  obtain ⟨n6, hn6⟩ : ∃ x, n - m = x := ⟨_, rfl⟩
                  obtain ⟨c6, hc6⟩ : ∃ x, ic - m = x := ⟨_, rfl⟩
                  rw [hn5, hc5] at hr5 hk5 hm5 hm6 hk6 p39 f39
                  rw [hn6, hc6] at hr6 hm6 hk6
                  obtain ⟨S6, hS6⟩ : ∃ x : MS, { S5 with i1 := S5.i1.drop m } = x := ⟨_, rfl⟩
                  obtain ⟨A6, hA6⟩ : ∃ x : MA, { A5 with i1 := ⟨a6, n6, c6⟩ } = x := ⟨_, rfl⟩
                  rw [hS6, hA6] at hm6
                  have hcut : cutI 1 m S5 = S6 := by rw [← hS6]; unfold cutI; rw [if_neg (by decide), if_neg (by decide)]
                  rw [hS5, hcut] at hstep
                  have hb6 : BS ((V.setCell ⟨g, 41, none⟩ (.slice a5 n5 c5)).setCell ⟨g, 40, none⟩ (.slice a6 n6 c6)) (some ⟨bk, bo, none⟩) n ic b :=
                    RS.grown (RS.grown hbV (grownBy_setCell V ⟨g, 41, none⟩ (.slice a5 n5 c5)) (fun ad ha he => by cases ha; exact hbne (by simpa using he))) (grownBy_setCell _ ⟨g, 40, none⟩ (.slice a6 n6 c6)) (fun ad ha he => by cases ha; exact hbne (by simpa using he))
                  have hk6 := (hkV.trans hk5).trans hk6
                  have g1 : S6.said = S1.said ∧ S6.o0 = S1.o0 ∧ S6.o1 = S1.o1 ∧ S6.sec = S1.sec ∧ S6.par = S1.par ∧ S6.nx = nx := by rw [← hS6, ← hS5]; exact ⟨rfl, rfl, rfl, rfl, rfl, rfl⟩
                  have HG1 := Lib.hid g1
                  have HM6 := Lib.hid hm6
                  have HK6 := Lib.hid hk6
                  have HB6 := Lib.hid hb6
                  have HS6 := Lib.hid hstep
                  clear hmi hfi hfew hA5i hA5 hS5 hi5 hOk5 hm5 hk5 hm6 hk6 hb6 hstep hcut hn5 hc5 hn6 hc6 hS6 hA6 g1 hbV hmV hkV hm
                  refine wp_region_held_drew (S := fun _ => True) (by kernel_rfl) trivial (fun hHeld => ?_)
                  rw [hV]
                  clear hV
                  refine wpAnyH_take (i := 0) (v := .pointer (some ⟨g, 0, none⟩)) rfl (by kernel_rfl) (by kernel_rfl) (by kernel_rfl) (fun _ _ _ h => h) (Or.inl ⟨by rfl, fun w h => by go_simp⟩) hHeld ?_
                  try simp only [Act.put, List.getElem_toArray, List.getElem_cons_zero, List.setIfInBounds_toArray, List.set_cons_zero, List.set_cons_succ]
                  refine wpAnyH_take (i := 1) (v := .pointer (some ⟨g, 0, none⟩)) rfl (by kernel_rfl) (by kernel_rfl) (by kernel_rfl) (fun _ _ _ h => h) (Or.inl ⟨by rfl, fun w h => by go_simp⟩) hHeld ?_
                  try simp only [Act.put, List.getElem_toArray, List.getElem_cons_succ, List.getElem_cons_zero, List.setIfInBounds_toArray, List.set_cons_zero, List.set_cons_succ]
                  refine wpAnyH_take (i := 2) (v := .int .i64 1) rfl (by kernel_rfl) (by kernel_rfl) (by kernel_rfl) (fun _ _ _ h => h) (Or.inl ⟨by rfl, fun w h => by go_simp⟩) hHeld ?_
                  try simp only [Act.put, List.getElem_toArray, List.getElem_cons_succ, List.getElem_cons_zero, List.setIfInBounds_toArray, List.set_cons_zero, List.set_cons_succ]
                  refine wpAnyH_take (i := 3) (v := .pointer (some ⟨g, 0, none⟩)) rfl (by kernel_rfl) (by kernel_rfl) (by kernel_rfl) (fun _ _ _ h => h) (Or.inl ⟨by rfl, fun w h => by go_simp⟩) hHeld ?_
                  try simp only [Act.put, List.getElem_toArray, List.getElem_cons_succ, List.getElem_cons_zero, List.setIfInBounds_toArray, List.set_cons_zero, List.set_cons_succ]
                  refine wpAnyH_take (i := 4) (v := .pointer (some ⟨g, 0, none⟩)) rfl (by kernel_rfl) (by kernel_rfl) (by kernel_rfl) (fun _ _ _ h => h) (Or.inl ⟨by rfl, fun w h => by go_simp⟩) hHeld ?_
                  try simp only [Act.put, List.getElem_toArray, List.getElem_cons_succ, List.getElem_cons_zero, List.setIfInBounds_toArray, List.set_cons_zero, List.set_cons_succ]
                  refine wpAnyH_take (i := 5) (v := .pointer (some ⟨g, 41, none⟩)) rfl (by kernel_rfl) (by kernel_rfl) (by kernel_rfl) (fun _ _ _ h => h) (Or.inl ⟨by rfl, fun w h => by go_simp⟩) hHeld ?_
                  try simp only [Act.put, List.getElem_toArray, List.getElem_cons_succ, List.getElem_cons_zero, List.setIfInBounds_toArray, List.set_cons_zero, List.set_cons_succ]
                  refine wpAnyH_take (i := 8) (v := .slice (some ⟨bk, bo, none⟩) n ic) rfl (by kernel_rfl) (by kernel_rfl) (by kernel_rfl) (fun _ _ _ h => h) (Or.inl ⟨by rfl, fun w h => by go_simp⟩) hHeld ?_
                  try simp only [Act.put, List.getElem_toArray, List.getElem_cons_succ, List.getElem_cons_zero, List.setIfInBounds_toArray, List.set_cons_zero, List.set_cons_succ]
                  refine wpAnyH_take (i := 9) (v := .int .i64 (m : Int)) rfl (by kernel_rfl) (by kernel_rfl) (by kernel_rfl) (fun _ _ _ h => h) (Or.inl ⟨by rfl, fun w h => by go_simp⟩) hHeld ?_
                  try simp only [Act.put, List.getElem_toArray, List.getElem_cons_succ, List.getElem_cons_zero, List.setIfInBounds_toArray, List.set_cons_zero, List.set_cons_succ]
                  refine wpAnyH_take (i := 10) (v := .slice a6 n6 c6) rfl (by kernel_rfl) (by kernel_rfl) (by kernel_rfl) (fun _ _ _ h => h) (Or.inl ⟨by rfl, fun w h => by go_simp⟩) hHeld ?_
                  try simp only [Act.put, List.getElem_toArray, List.getElem_cons_succ, List.getElem_cons_zero, List.setIfInBounds_toArray, List.set_cons_zero, List.set_cons_succ]
                  refine wpAnyH_take (i := 14) (v := .pointer (some ⟨g, 0, none⟩)) rfl (by kernel_rfl) (by kernel_rfl) (by kernel_rfl) (fun _ _ _ h => h) (Or.inl ⟨by rfl, fun w h => by go_simp⟩) hHeld ?_
                  try simp only [Act.put, List.getElem_toArray, List.getElem_cons_succ, List.getElem_cons_zero, List.setIfInBounds_toArray, List.set_cons_zero, List.set_cons_succ]
                  refine wpAnyH_take (i := 15) (v := .pointer (some ⟨g, 39, none⟩)) rfl (by kernel_rfl) (by kernel_rfl) (by kernel_rfl) (fun _ _ _ h => h) (Or.inl ⟨by rfl, fun w h => by go_simp⟩) hHeld ?_
                  try simp only [Act.put, List.getElem_toArray, List.getElem_cons_succ, List.getElem_cons_zero, List.setIfInBounds_toArray, List.set_cons_zero, List.set_cons_succ]
                  refine wpAnyH_ready (rs := [6]) (by kernel_rfl) (by simp) (AllReadyH.cons rfl (fun K hK => ?_) AllReadyH.nil)
                  go_simp
                  refine hK.out _ _ trivial (fun hHeld => ?_)
                  clear hK K
                  try simp only [Act.put, List.getElem_toArray, List.getElem_cons_succ, List.getElem_cons_zero, List.setIfInBounds_toArray, List.set_cons_zero, List.set_cons_succ]
                  refine wpAnyH_take (i := 7) (v := .slice a5 n5 c5) rfl (by kernel_rfl) (by kernel_rfl) (by kernel_rfl) (fun _ _ _ h => h) (Or.inl ⟨by rfl, fun w h => by go_simp⟩) hHeld ?_
                  try simp only [Act.put, List.getElem_toArray, List.getElem_cons_succ, List.getElem_cons_zero, List.setIfInBounds_toArray, List.set_cons_zero, List.set_cons_succ]
                  refine wpAnyH_take (i := 11) (v := .pointer (some ⟨g, 0, none⟩)) rfl (by kernel_rfl) (by kernel_rfl) (by kernel_rfl) (fun _ _ _ h => h) (Or.inl ⟨by rfl, fun w h => by go_simp⟩) hHeld ?_
                  try simp only [Act.put, List.getElem_toArray, List.getElem_cons_succ, List.getElem_cons_zero, List.setIfInBounds_toArray, List.set_cons_zero, List.set_cons_succ]
                  refine wpAnyH_take (i := 12) (v := .pointer (some ⟨g, 41, none⟩)) rfl (by kernel_rfl) (by kernel_rfl) (by kernel_rfl) (fun _ _ _ h => h) (Or.inl ⟨by rfl, fun w h => by go_simp⟩) hHeld ?_
                  try simp only [Act.put, List.getElem_toArray, List.getElem_cons_succ, List.getElem_cons_zero, List.setIfInBounds_toArray, List.set_cons_zero, List.set_cons_succ]
                  refine wpAnyH_ready (rs := [13]) (by kernel_rfl) (by simp) (AllReadyH.cons rfl (fun K hK => ?_) AllReadyH.nil)
                  go_simp
                  refine hK.out _ _ trivial (fun hHeld => ?_)
                  clear hK K
                  try simp only [Act.put, List.getElem_toArray, List.getElem_cons_succ, List.getElem_cons_zero, List.setIfInBounds_toArray, List.set_cons_zero, List.set_cons_succ]
                  refine wpAnyH_take (i := 16) (v := .pointer (some ⟨g, 40, none⟩)) rfl (by kernel_rfl) (by kernel_rfl) (by kernel_rfl) (fun _ _ _ h => h) (Or.inl ⟨by rfl, fun w h => by go_simp⟩) hHeld ?_
                  try simp only [Act.put, List.getElem_toArray, List.getElem_cons_succ, List.getElem_cons_zero, List.setIfInBounds_toArray, List.set_cons_zero, List.set_cons_succ]
                  refine wpAnyH_ready (rs := [17]) (by kernel_rfl) (by simp) (AllReadyH.cons rfl (fun K hK => ?_) AllReadyH.nil)
                  go_simp
                  refine hK.out _ _ trivial (fun hHeld => ?_)
                  clear hK K
                  try simp only [Act.put, List.getElem_toArray, List.getElem_cons_succ, List.getElem_cons_zero, List.setIfInBounds_toArray, List.set_cons_zero, List.set_cons_succ]
                  refine wpAnyH_done (by kernel_rfl) ?_ _
                  try simp only [Act.put, List.getElem_toArray, List.getElem_cons_succ, List.getElem_cons_zero]
                  clear p41 f41 p39 f39 hr5 hr6 hHeld
                  obtain ⟨U, hU⟩ : ∃ x, (V.setCell ⟨g, 41, none⟩ (.slice a5 n5 c5)).setCell ⟨g, 40, none⟩ (.slice a6 n6 c6) = x := ⟨_, rfl⟩
                  rw [hU] at HM6 HK6 HB6 ⊢
                  clear hU
                  go_upto_region 10 with (fail)
                  have hmX := HM6.out.drew
                  have hkX := HK6.out.drew
                  have hbX : BS U.drew (some ⟨bk, bo, none⟩) n ic b := HB6.out.drew
                  obtain ⟨X, hX⟩ : ∃ x, U.drew = x := ⟨_, rfl⟩
                  rw [hX] at hmX hkX hbX
                  have e0x := cell_of hbX 0 x0 hx0
                  rw [Nat.add_zero] at e0x
                  obtain ⟨hw7, hr7⟩ := runK_h hbX .i64 m hmn
                  obtain ⟨a8, hp8, hr8⟩ := runK_lh hbX 4 m h4m hmn
                  obtain ⟨n8, hn8⟩ : ∃ x, m - 4 = x := ⟨_, rfl⟩
                  obtain ⟨c8, hc8⟩ : ∃ x, ic - 4 = x := ⟨_, rfl⟩
                  rw [hn8, hc8] at hp8 hr8
                  have hr9 : ∀ W, (Instr.slice 22 (.slice (some ⟨bk, bo, none⟩) n ic) (some (.int .i64 4)) (some (.int .i64 (m : Int))) none).run Tryd.prog W = .ok (.slice a8 n8 c8) W := fun W => hr8 W
                  have hm8 : m = 4 + n8 := by omega
                  have hstep := HS6.out
                  rw [hn8] at hstep
                  obtain ⟨wh, hwh⟩ : ∃ x, b.take m = x := ⟨_, rfl⟩
                  obtain ⟨pp, hpp⟩ : ∃ x, (b.drop 4).take n8 = x := ⟨_, rfl⟩
                  obtain ⟨R, hRR⟩ : ∃ x, takeM S6 x0.toNat wh pp = x := ⟨_, rfl⟩
                  rw [hwh] at hw7 hstep
                  rw [hpp] at hp8 hstep
                  rw [hRR] at hstep
                  have hwl : wh.length = m := BS.len hw7
                  obtain ⟨q1, q2, q3, q4, q5, q6⟩ := HG1.out
                  have hgr := Gr.take S6 hmX.ok.rnd (by rw [q5]; exact hpar) x0.toNat wh pp
                  have hnl : S1.nx.length = nx.length + 1 := by rw [HNX.out, List.length_cons]
                  have htk := gtake_any X hmX hw7 hp8 hm8 (fun ad h => by cases h; exact hbne) (by omega) (by rw [q1]; omega) (by rw [q2]; omega) (by rw [q3]; omega) (by rw [q4]; exact hc) (by rw [q5]; exact hpar) (HK.out.kpt hkX hR) (HK.out.role hkX hR) x0.toNat t0
                  rw [hRR] at htk hgr
                  have Htk := Lib.hid htk
                  have HGr := Lib.hid hgr
                  have HKX := Lib.hid hkX
                  have HST2 := Lib.hid hstep
                  have HQ := Lib.hid (And.intro hwl (And.intro hnl hm8))
                  clear htk hgr hkX hmX hbX hw7 hp8 hr8 hn8 hc8 hm8 hstep hwh hpp hRR hwl hnl q1 q2 q3 q4 q5 q6
                  refine wp_region_held_drew (S := fun _ => True) (by kernel_rfl) trivial (fun hHeld => ?_)
                  rw [hX]
                  clear hX
                  refine wpAnyH_take (i := 0) (v := .pointer (some ⟨g, 0, none⟩)) rfl (by kernel_rfl) (by kernel_rfl) (by kernel_rfl) (fun _ _ _ h => h) (Or.inl ⟨by rfl, fun w h => by go_simp⟩) hHeld ?_
                  try simp only [Act.put, List.getElem_toArray, List.getElem_cons_zero, List.setIfInBounds_toArray, List.set_cons_zero, List.set_cons_succ]
                  refine wpAnyH_take (i := 1) (v := .pointer (some ⟨g, 0, none⟩)) rfl (by kernel_rfl) (by kernel_rfl) (by kernel_rfl) (fun _ _ _ h => h) (Or.inl ⟨by rfl, fun w h => by go_simp⟩) hHeld ?_
                  try simp only [Act.put, List.getElem_toArray, List.getElem_cons_succ, List.getElem_cons_zero, List.setIfInBounds_toArray, List.set_cons_zero, List.set_cons_succ]
                  refine wpAnyH_take (i := 2) (v := .slice (some ⟨bk, bo, none⟩) n ic) rfl (by kernel_rfl) (by kernel_rfl) (by kernel_rfl) (fun _ _ _ h => h) (Or.inl ⟨by rfl, fun w h => by go_simp⟩) hHeld ?_
                  try simp only [Act.put, List.getElem_toArray, List.getElem_cons_succ, List.getElem_cons_zero, List.setIfInBounds_toArray, List.set_cons_zero, List.set_cons_succ]
                  refine wpAnyH_take (i := 3) (v := .pointer (some ⟨bk, bo, none⟩)) rfl (by kernel_rfl) (by kernel_rfl) (by kernel_rfl) (fun _ _ _ h => h) (Or.inl ⟨by rfl, fun w h => by go_simp⟩) hHeld ?_
                  try simp only [Act.put, List.getElem_toArray, List.getElem_cons_succ, List.getElem_cons_zero, List.setIfInBounds_toArray, List.set_cons_zero, List.set_cons_succ]
                  refine wpAnyH_take (i := 5) (v := .slice (some ⟨bk, bo, none⟩) n ic) rfl (by kernel_rfl) (by kernel_rfl) (by kernel_rfl) (fun _ _ _ h => h) (Or.inl ⟨by rfl, fun w h => by go_simp⟩) hHeld ?_
                  try simp only [Act.put, List.getElem_toArray, List.getElem_cons_succ, List.getElem_cons_zero, List.setIfInBounds_toArray, List.set_cons_zero, List.set_cons_succ]
                  refine wpAnyH_take (i := 6) (v := .int .i64 (m : Int)) rfl (by kernel_rfl) (by kernel_rfl) (by kernel_rfl) (fun _ _ _ h => h) (Or.inl ⟨by rfl, fun w h => by go_simp⟩) hHeld ?_
                  try simp only [Act.put, List.getElem_toArray, List.getElem_cons_succ, List.getElem_cons_zero, List.setIfInBounds_toArray, List.set_cons_zero, List.set_cons_succ]
                  refine wpAnyH_take (i := 7) (v := .slice (some ⟨bk, bo, none⟩) m ic) rfl (by kernel_rfl) (by kernel_rfl) (by kernel_rfl) (fun _ _ _ h => h) (Or.inl ⟨by rfl, fun w h => by go_simp⟩) hHeld ?_
                  try simp only [Act.put, List.getElem_toArray, List.getElem_cons_succ, List.getElem_cons_zero, List.setIfInBounds_toArray, List.set_cons_zero, List.set_cons_succ]
                  refine wpAnyH_take (i := 8) (v := .slice (some ⟨bk, bo, none⟩) n ic) rfl (by kernel_rfl) (by kernel_rfl) (by kernel_rfl) (fun _ _ _ h => h) (Or.inl ⟨by rfl, fun w h => by go_simp⟩) hHeld ?_
                  try simp only [Act.put, List.getElem_toArray, List.getElem_cons_succ, List.getElem_cons_zero, List.setIfInBounds_toArray, List.set_cons_zero, List.set_cons_succ]
                  refine wpAnyH_take (i := 9) (v := .int .i64 (m : Int)) rfl (by kernel_rfl) (by kernel_rfl) (by kernel_rfl) (fun _ _ _ h => h) (Or.inl ⟨by rfl, fun w h => by go_simp⟩) hHeld ?_
                  try simp only [Act.put, List.getElem_toArray, List.getElem_cons_succ, List.getElem_cons_zero, List.setIfInBounds_toArray, List.set_cons_zero, List.set_cons_succ]
                  refine wpAnyH_take (i := 10) (v := .slice a8 n8 c8) rfl (by kernel_rfl) (by kernel_rfl) (by kernel_rfl) (fun _ _ _ h => h) (Or.inl ⟨by rfl, fun w h => by go_simp⟩) hHeld ?_
                  try simp only [Act.put, List.getElem_toArray, List.getElem_cons_succ, List.getElem_cons_zero, List.setIfInBounds_toArray, List.set_cons_zero, List.set_cons_succ]
                  refine wpAnyH_ready (rs := [4]) (by kernel_rfl) (by simp) (AllReadyH.cons rfl (fun K hK => ?_) AllReadyH.nil)
                  go_simp
                  refine hK.out _ _ trivial (fun hHeld => ?_)
                  clear hK K
                  try simp only [Act.put, List.getElem_toArray, List.getElem_cons_succ, List.getElem_cons_zero, List.setIfInBounds_toArray, List.set_cons_zero, List.set_cons_succ]
                  refine wpAnyH_ready (rs := [11]) (by kernel_rfl) (by simp) (AllReadyH.cons rfl (fun K hK => ?_) AllReadyH.nil)
                  go_simp
                  go_at_call 47
                  refine Htk.out.mono ?_
                  rintro x w9 ⟨rfl, role9, A9, hm9, hk9⟩
                  have p272 : w9.cell? ⟨g, 272, none⟩ = some (.int .u64 (R.1.wrong : Int)) := (hm9.row.cells hm9.ok).g272
                  have f272 := hm9.row.fr 272
                  have HM9 := Lib.hid hm9
                  have HK9 := Lib.hid hk9
                  clear hm9 hk9
                  refine hK.out _ _ trivial (fun hHeld => ?_)
                  clear hK K
                  try simp only [Act.put, List.getElem_toArray, List.getElem_cons_succ, List.getElem_cons_zero, List.setIfInBounds_toArray, List.set_cons_zero, List.set_cons_succ]
                  refine wpAnyH_take (i := 12) (v := .pointer (some ⟨g, 0, none⟩)) rfl (by kernel_rfl) (by kernel_rfl) (by kernel_rfl) (fun _ _ _ h => h) (Or.inl ⟨by rfl, fun w h => by go_simp⟩) hHeld ?_
                  try simp only [Act.put, List.getElem_toArray, List.getElem_cons_succ, List.getElem_cons_zero, List.setIfInBounds_toArray, List.set_cons_zero, List.set_cons_succ]
                  refine wpAnyH_take (i := 13) (v := .pointer (some ⟨g, 272, none⟩)) rfl (by kernel_rfl) (by kernel_rfl) (by kernel_rfl) (fun _ _ _ h => h) (Or.inl ⟨by rfl, fun w h => by go_simp⟩) hHeld ?_
                  try simp only [Act.put, List.getElem_toArray, List.getElem_cons_succ, List.getElem_cons_zero, List.setIfInBounds_toArray, List.set_cons_zero, List.set_cons_succ]
                  refine wpAnyH_ready (rs := [14]) (by kernel_rfl) (by simp) (AllReadyH.cons rfl (fun K hK => ?_) AllReadyH.nil)
                  go_simp
                  refine hK.out _ _ trivial (fun hHeld => ?_)
                  clear hK K
                  try simp only [Act.put, List.getElem_toArray, List.getElem_cons_succ, List.getElem_cons_zero, List.setIfInBounds_toArray, List.set_cons_zero, List.set_cons_succ]
                  refine wpAnyH_done (by kernel_rfl) ?_ _
                  try simp only [Act.put, List.getElem_toArray, List.getElem_cons_succ, List.getElem_cons_zero]
                  obtain ⟨hmw, hkw⟩ := HM9.out.set_wrong R.2
                  have HMW := Lib.hid hmw
                  have HKW := Lib.hid ((HKX.out.trans HK9.out).trans hkw)
                  clear hmw hkw hHeld p272 f272 hr7 hr9 e0x
                  go_wp2
                  have q41r : wr.cell? ⟨g, 41, none⟩ = some (.slice A1.nx.a A1.nx.n A1.nx.c) := (HM.out.row.cells hOk).g41
                  have q41e := (HMW.out.row.cells HMW.out.ok).g41
                  have hgr := HGr.out
                  obtain ⟨hwl, hnl, hm8⟩ := HQ.out
                  obtain ⟨q1, q2, q3, q4, q5, q6⟩ := HG1.out
                  have hn9 : A9.nx.n * 2 = (tcells R.1.nx).length := HMW.out.gp.nx.len.symm
                  rw [hgr.nx, q6, tlen] at hn9
                  have hsd := hgr.said
                  have ho0' := hgr.o0
                  have ho1' := hgr.o1
                  rw [q1, hwl] at hsd
                  rw [q2, hwl] at ho0'
                  rw [q3, hwl] at ho1'
                  refine ⟨⟨role9, { R.1 with wrong := R.2 }, A9, HMW.out, HKW.out, ?_, ?_, ?_, ?_, ?_, ?_⟩, ?_⟩
                  · show readM 1 (R.1.nx.length + 1) _ = RES
                    rw [hgr.nx, q6]; exact HST2.out
                  · show R.1.said.length + R.1.nx.length * 1000000000 ≤ _
                    rw [hgr.nx, q6]; omega
                  · show R.1.o0.length + R.1.nx.length * 1000000000 ≤ _
                    rw [hgr.nx, q6]; omega
                  · show R.1.o1.length + R.1.nx.length * 1000000000 ≤ _
                    rw [hgr.nx, q6]; omega
                  · show R.1.sec.length ≤ _
                    rw [hgr.sec, q4]; exact hc
                  · show R.1.par.length ≤ _
                    rw [hgr.par, q5]; exact hpar
                  · rw [q41r, q41e]
                    show A9.nx.n < A1.nx.n
                    rw [HNN.out]
                    have := HNL.out
                    omega
              · rw [if_pos (by rw [hg0]; intro h; injection h with h1 h2; exact hy ⟨h1, h2⟩)] at hstep
                have HF := Lib.hid (show RES = { S1 with wrong := 266 } by rw [← hstep, hnx])
                have hne := fun W => neqw W (y1 : Int) (y2 : Int) (x0.toNat : Int) 1 (fun h => hy ⟨by omega, by omega⟩)
                clear hstep hnx hy
                go_quiet (fail)
                generalize hws : World.drewN wq _ = ws
                have hms : GM ws role1 g S1 A1 := by rw [← hws]; exact HMq.out.drewN _
                have hks : Kpt w ws role role1 := by rw [← hws]; exact HKq.out.drewN _
                have r272 : ws.cell? ⟨g, 272, none⟩ = some (.int .u64 (S1.wrong : Int)) := (hms.row.cells hOk).g272
                have f272 := hms.row.fr 272
                obtain ⟨hmw, hkw⟩ := hms.set_wrong 266
                have HMW := Lib.hid hmw
                have HKW := Lib.hid (hks.trans hkw)
                clear hmw hkw hms hks hws
                go_wp2
                (try simp only [Exit.inBlock, Exit.then]); refine bodyPost_ret (results_none rfl _ _ _) rfl ?_
                first | exact ⟨rfl, role1, A1, by rw [HF.out]; exact HMW.out, HKW.out⟩ | exact ⟨rfl, role1, ⟨A1, by rw [HF.out]; exact HMW.out⟩, HKW.out⟩
        · have h4' : decide ((4 : Int) ≤ (n : Int)) = false := decide_eq_false (by omega)
          rw [if_neg (by omega)] at hstep
          go_quiet (fail)
          generalize hwq : World.drewN wr _ = wq
          have HMq := Lib.hid (show GM wq role1 g S1 A1 by rw [← hwq]; exact HM.out.drewN _)
          have HKq := Lib.hid (show Kpt w wq role role1 by rw [← hwq]; exact HKP.out.drewN _)
          have HBq := Lib.hid (show BS wq (some ⟨bk, bo, none⟩) n ic b by rw [← hwq]; exact HBS.out.drewN _)
          have e0 := cell_of HBq.out 0 x0 hx0
          rw [Nat.add_zero] at e0
          clear hwq hcell k0
          go_upto_region 4 with (fail)
          have q41 : wq.cell? ⟨g, 41, none⟩ = some (.slice A1.nx.a A1.nx.n A1.nx.c) := (HMq.out.row.cells hOk).g41
          have hnl : A1.nx.n * 2 = (tcells S1.nx).length := HMq.out.gp.nx.len.symm
          have hnr := HMq.out.gp.nx
          cases hnx : S1.nx with
          | nil =>
            rw [hnx] at hnl hstep
            dsimp only at hstep
            have hn0 : A1.nx.n = 0 := by rw [tlen, List.length_nil] at hnl; omega
            rw [hn0] at q41
            have HF := Lib.hid (show RES = { S1 with wrong := 266 } by rw [← hstep, hnx])
            clear hnl hnr hstep hnx hn0
            go_quiet (fail)
            generalize hws : World.drewN wq _ = ws
            have hms : GM ws role1 g S1 A1 := by rw [← hws]; exact HMq.out.drewN _
            have hks : Kpt w ws role role1 := by rw [← hws]; exact HKq.out.drewN _
            have r272 : ws.cell? ⟨g, 272, none⟩ = some (.int .u64 (S1.wrong : Int)) := (hms.row.cells hOk).g272
            have f272 := hms.row.fr 272
            obtain ⟨hmw, hkw⟩ := hms.set_wrong 266
            have HMW := Lib.hid hmw
            have HKW := Lib.hid (hks.trans hkw)
            clear hmw hkw hms hks hws
            go_wp2
            (try simp only [Exit.inBlock, Exit.then]); refine bodyPost_ret (results_none rfl _ _ _) rfl ?_
            first | exact ⟨rfl, role1, A1, by rw [HF.out]; exact HMW.out, HKW.out⟩ | exact ⟨rfl, role1, ⟨A1, by rw [HF.out]; exact HMW.out⟩, HKW.out⟩
          | cons x nx =>
            rw [hnx] at hnl hstep hnr
            dsimp only at hstep
            obtain ⟨y1, y2⟩ := x
            have hnn : A1.nx.n = nx.length + 1 := by rw [tlen, List.length_cons] at hnl; omega
            obtain ⟨na, hna⟩ : ∃ v, A1.nx.a = v := ⟨_, rfl⟩
            obtain ⟨nn, hnn'⟩ : ∃ v, A1.nx.n = v := ⟨_, rfl⟩
            obtain ⟨nc, hnc⟩ : ∃ v, A1.nx.c = v := ⟨_, rfl⟩
            rw [hna, hnn', hnc] at q41 hnr
            rw [hnn'] at hnn
            have hnp : 0 < nn := by omega
            have hnpi : 0 < (nn : Int) := by omega
            obtain ⟨nk, no, rfl, hy1, hy2⟩ := tat hnr
            have HNA := Lib.hid hna
            have HNN := Lib.hid hnn'
            have HNC := Lib.hid hnc
            have HNR := Lib.hid hnr
            have HNL := Lib.hid hnn
            have hz : ((nn : Int) == 0) = false := by simp; omega
            have hz2 : decide ((nn : Int) = 0) = false := decide_eq_false (by omega)
            clear hnl hnr hnn hna hnn' hnc
            by_cases hy : y1 = x0.toNat ∧ y2 = 1
            · obtain ⟨rfl, rfl⟩ := hy
              rw [if_neg (by rw [hg0]; simp)] at hstep
              have HST := Lib.hid hstep
              have HNX := Lib.hid hnx
              clear hstep hnx
              go_quiet (fail)
              generalize hws : World.drewN wq _ = ws
              have hms : GM ws role1 g S1 A1 := by rw [← hws]; exact HMq.out.drewN _
              have hks : Kpt w ws role role1 := by rw [← hws]; exact HKq.out.drewN _
              have hbs : BS ws (some ⟨bk, bo, none⟩) n ic b := by rw [← hws]; exact HBq.out.drewN _
              have HMs := Lib.hid hms
              have HKs := Lib.hid hks
              have HBs := Lib.hid hbs
              clear hms hks hbs hws
              have h4j : (n : Int) < 4 := by omega
              have hstep := HST.out
              rw [if_pos (by omega)] at hstep
              have HF := Lib.hid (show RES = S1 from hstep.symm)
              clear hstep
              go_wp2
              (try simp only [Exit.inBlock, Exit.then]); refine bodyPost_ret (results_none rfl _ _ _) rfl ?_
              first | exact ⟨rfl, role1, A1, by rw [HF.out]; exact HMs.out, HKs.out⟩ | exact ⟨rfl, role1, ⟨A1, by rw [HF.out]; exact HMs.out⟩, HKs.out⟩
            · rw [if_pos (by rw [hg0]; intro h; injection h with h1 h2; exact hy ⟨h1, h2⟩)] at hstep
              have HF := Lib.hid (show RES = { S1 with wrong := 266 } by rw [← hstep, hnx])
              have hne := fun W => neqw W (y1 : Int) (y2 : Int) (x0.toNat : Int) 1 (fun h => hy ⟨by omega, by omega⟩)
              clear hstep hnx hy
              go_quiet (fail)
              generalize hws : World.drewN wq _ = ws
              have hms : GM ws role1 g S1 A1 := by rw [← hws]; exact HMq.out.drewN _
              have hks : Kpt w ws role role1 := by rw [← hws]; exact HKq.out.drewN _
              have r272 : ws.cell? ⟨g, 272, none⟩ = some (.int .u64 (S1.wrong : Int)) := (hms.row.cells hOk).g272
              have f272 := hms.row.fr 272
              obtain ⟨hmw, hkw⟩ := hms.set_wrong 266
              have HMW := Lib.hid hmw
              have HKW := Lib.hid (hks.trans hkw)
              clear hmw hkw hms hks hws
              go_wp2
              (try simp only [Exit.inBlock, Exit.then]); refine bodyPost_ret (results_none rfl _ _ _) rfl ?_
              first | exact ⟨rfl, role1, A1, by rw [HF.out]; exact HMW.out, HKW.out⟩ | exact ⟨rfl, role1, ⟨A1, by rw [HF.out]; exact HMW.out⟩, HKW.out⟩
    · have hwi : ((S1.wrong : Int) == 0) = false := by simp; omega
      have hfin : RES = S1 := by rw [← HRES.out]; unfold readM; rw [if_pos (.inl hw)]
      have HF := Lib.hid hfin
      clear hw hfin
      go_wp2
      go_end0
      first | exact ⟨rfl, role1, A1, by rw [HF.out]; exact HM.out, HKP.out⟩ | exact ⟨rfl, role1, ⟨A1, by rw [HF.out]; exact HM.out⟩, HKP.out⟩
end Go.Proofs.YtkhcpnmbhbhcgaaDoor

/- (*greet.Machine).Hear. -/
set_option maxRecDepth 100000
set_option linter.unusedVariables false
namespace Go.Proofs.YtkhcpnmbhbhcgaaDoor
open Go.RowKit Go.Joins
/-- more bytes are heard -/
noncomputable def hearM (lv : Int) (p : List UInt8) (S : MS) : MS :=
  if S.wrong ≠ 0 ∨ p = [] then S else
  if lv = 0 then readM 0 (S.nx.length + 1) { S with i0 := S.i0 ++ p } else
  if lv = 1 then readM 1 (S.nx.length + 1) { S with i1 := S.i1 ++ p } else { S with wrong := 266 }
set_option maxHeartbeats 2000000 in
theorem ghear_0 (w : World) {role : Nat → Nat} {g : Nat} {S : MS} {A : MA} (hM : GM w role g S A) {a : Option Addr} {n c : Nat} {p : List UInt8} (hp : BS w a n c p)
    (hs : S.said.length + S.nx.length * 1000000000 ≤ 274877906944) (ho0 : S.o0.length + S.nx.length * 1000000000 ≤ 274877906944) (ho1 : S.o1.length + S.nx.length * 1000000000 ≤ 274877906944) (hc : S.sec.length ≤ 274877906944) (hpar : S.par.length ≤ 600) (hi0 : S.i0.length + n ≤ 274877906944) (hi1 : S.i1.length + n ≤ 274877906944) (hK : KT w) (hR : role 3 = 0) (hw : S.wrong = 0) (hn0 : 0 < n) :
    Calls Tryd.prog 12 #[.pointer (some ⟨g, 0, none⟩), .int .i64 0, .slice a n c] w fun e w' => e = .returned (.int .u64 ((hearM 0 p S).wrong : Int)) ∧ ∃ role' A', GM w' role' g (hearM 0 p S) A' ∧ Kpt w w' role role' := by
  have hpl := BS.len hp
  have hfs : hearM 0 p S = readM 0 (S.nx.length + 1) { S with i0 := S.i0 ++ p } := by
    unfold hearM
    rw [if_neg (by intro h; rcases h with h | h; exact h hw; rw [h] at hpl; simp at hpl; omega), if_pos rfl]
  have hOk := hM.ok
  have hmV := hM.drew
  have hkV := (Kpt.refl w role hM.gp.top).drew
  have hpV : BS w.drew a n c p := hp.drew
  have q272 : w.cell? ⟨g, 272, none⟩ = some (.int .u64 (S.wrong : Int)) := (hM.row.cells hOk).g272
  have hwi : ((S.wrong : Int) == 0) = true := by simp [hw]
  have hn0' : 0 < (n : Int) := by omega
  have hol : A.i0.n ≤ 274877906944 := by rw [hM.gp.i0.len]; omega
  have hnb : n ≤ 274877906944 := by omega
  have HM := Lib.hid hM
  have HK := Lib.hid hK
  have HFS := Lib.hid hfs
  obtain ⟨V, hV⟩ : ∃ x, w.drew = x := ⟨_, rfl⟩
  rw [hV] at hmV hkV hpV
  have HMV := Lib.hid hmV
  have HKV := Lib.hid hkV
  have HPV := Lib.hid hpV
  have HVE := Lib.hid hV
  have HPL := Lib.hid hpl
  have HL := Lib.hid (And.intro hs (And.intro ho0 ho1))
  clear hfs hpl hM hp hmV hkV hpV hK hV hw hs ho0 ho1
  go_enter Tryd.func12, Tryd.ntmps12
  go_upto_region 6 with (fail)
  clear q272 hwi
  have qI : V.cell? ⟨g, 39, none⟩ = some (.slice A.i0.a A.i0.n A.i0.c) := (HMV.out.row.cells hOk).g39
  refine wp_region_held_drew (S := fun _ => True) (by kernel_rfl) trivial (fun hHeld => ?_)
  rw [HVE.out]
  refine wpAnyH_take (i := 0) (v := .pointer (some ⟨g, 0, none⟩)) rfl (by kernel_rfl) (by kernel_rfl) (by kernel_rfl) (fun _ _ _ h => h) (Or.inl ⟨by rfl, fun w h => by go_simp⟩) hHeld ?_
  try simp only [Act.put, List.getElem_toArray, List.getElem_cons_zero, List.setIfInBounds_toArray, List.set_cons_zero, List.set_cons_succ]
  refine wpAnyH_take (i := 1) (v := .int .i64 0) rfl (by kernel_rfl) (by kernel_rfl) (by kernel_rfl) (fun _ _ _ h => h) (Or.inl ⟨by rfl, fun w h => by go_simp⟩) hHeld ?_
  try simp only [Act.put, List.getElem_toArray, List.getElem_cons_succ, List.getElem_cons_zero, List.setIfInBounds_toArray, List.set_cons_zero, List.set_cons_succ]
  refine wpAnyH_take (i := 2) (v := .pointer (some ⟨g, 0, none⟩)) rfl (by kernel_rfl) (by kernel_rfl) (by kernel_rfl) (fun _ _ _ h => h) (Or.inl ⟨by rfl, fun w h => by go_simp⟩) hHeld ?_
  try simp only [Act.put, List.getElem_toArray, List.getElem_cons_succ, List.getElem_cons_zero, List.setIfInBounds_toArray, List.set_cons_zero, List.set_cons_succ]
  refine wpAnyH_take (i := 3) (v := .int .i64 0) rfl (by kernel_rfl) (by kernel_rfl) (by kernel_rfl) (fun _ _ _ h => h) (Or.inl ⟨by rfl, fun w h => by go_simp⟩) hHeld ?_
  try simp only [Act.put, List.getElem_toArray, List.getElem_cons_succ, List.getElem_cons_zero, List.setIfInBounds_toArray, List.set_cons_zero, List.set_cons_succ]
  refine wpAnyH_take (i := 4) (v := .pointer (some ⟨g, 0, none⟩)) rfl (by kernel_rfl) (by kernel_rfl) (by kernel_rfl) (fun _ _ _ h => h) (Or.inl ⟨by rfl, fun w h => by go_simp⟩) hHeld ?_
  try simp only [Act.put, List.getElem_toArray, List.getElem_cons_succ, List.getElem_cons_zero, List.setIfInBounds_toArray, List.set_cons_zero, List.set_cons_succ]
  refine wpAnyH_take (i := 5) (v := .pointer (some ⟨g, 39, none⟩)) rfl (by kernel_rfl) (by kernel_rfl) (by kernel_rfl) (fun _ _ _ h => h) (Or.inl ⟨by rfl, fun w h => by go_simp⟩) hHeld ?_
  try simp only [Act.put, List.getElem_toArray, List.getElem_cons_succ, List.getElem_cons_zero, List.setIfInBounds_toArray, List.set_cons_zero, List.set_cons_succ]
  refine wpAnyH_take (i := 6) (v := .pointer (some ⟨g, 39, none⟩)) rfl (by kernel_rfl) (by kernel_rfl) (by kernel_rfl) (fun _ _ _ h => h) (Or.inl ⟨by rfl, fun w h => by go_simp⟩) hHeld ?_
  try simp only [Act.put, List.getElem_toArray, List.getElem_cons_succ, List.getElem_cons_zero, List.setIfInBounds_toArray, List.set_cons_zero, List.set_cons_succ]
  refine wpAnyH_take (i := 8) (v := .slice a n c) rfl (by kernel_rfl) (by kernel_rfl) (by kernel_rfl) (fun _ _ _ h => h) (Or.inl ⟨by rfl, fun w h => by go_simp⟩) hHeld ?_
  try simp only [Act.put, List.getElem_toArray, List.getElem_cons_succ, List.getElem_cons_zero, List.setIfInBounds_toArray, List.set_cons_zero, List.set_cons_succ]
  refine wpAnyH_take (i := 10) (v := .pointer (some ⟨g, 0, none⟩)) rfl (by kernel_rfl) (by kernel_rfl) (by kernel_rfl) (fun _ _ _ h => h) (Or.inl ⟨by rfl, fun w h => by go_simp⟩) hHeld ?_
  try simp only [Act.put, List.getElem_toArray, List.getElem_cons_succ, List.getElem_cons_zero, List.setIfInBounds_toArray, List.set_cons_zero, List.set_cons_succ]
  refine wpAnyH_take (i := 11) (v := .pointer (some ⟨g, 39, none⟩)) rfl (by kernel_rfl) (by kernel_rfl) (by kernel_rfl) (fun _ _ _ h => h) (Or.inl ⟨by rfl, fun w h => by go_simp⟩) hHeld ?_
  try simp only [Act.put, List.getElem_toArray, List.getElem_cons_succ, List.getElem_cons_zero, List.setIfInBounds_toArray, List.set_cons_zero, List.set_cons_succ]
  refine wpAnyH_ready (rs := [7]) (by kernel_rfl) (by simp) (AllReadyH.cons rfl (fun K hK => ?_) AllReadyH.nil)
  go_simp
  refine hK.out _ _ trivial (fun hHeld => ?_)
  clear hK K
  try simp only [Act.put, List.getElem_toArray, List.getElem_cons_succ, List.getElem_cons_zero, List.setIfInBounds_toArray, List.set_cons_zero, List.set_cons_succ]
  refine wpAnyH_ready (rs := [9]) (by kernel_rfl) (by simp) (AllReadyH.cons rfl (fun K hK => ?_) AllReadyH.nil)
  refine S_append_X tB HMV.out.gp.i0 HPV.out _ _ rfl rfl rfl rfl (by omega) (by unfold maxLen; omega) HMV.out.gp.top ?_
  intro a4 c4 w4 role4 ho4 hst4
  have hr4 := HMV.out.row.keep (hst4.blk g HMV.out.gp.gl (by rw [HMV.out.gp.rg]; decide))
  have pI : w4.cell? ⟨g, 39, none⟩ = some (.slice A.i0.a A.i0.n A.i0.c) := (hr4.cells hOk).g39
  have fI := hr4.fr 39
  refine hK.out _ _ trivial (fun hHeld => ?_)
  clear hK K
  try simp only [Act.put, List.getElem_toArray, List.getElem_cons_succ, List.getElem_cons_zero, List.setIfInBounds_toArray, List.set_cons_zero, List.set_cons_succ]
  refine wpAnyH_take (i := 12) (v := .pointer (some ⟨g, 39, none⟩)) rfl (by kernel_rfl) (by kernel_rfl) (by kernel_rfl) (fun _ _ _ h => h) (Or.inl ⟨by rfl, fun w h => by go_simp⟩) hHeld ?_
  try simp only [Act.put, List.getElem_toArray, List.getElem_cons_succ, List.getElem_cons_zero, List.setIfInBounds_toArray, List.set_cons_zero, List.set_cons_succ]
  refine wpAnyH_ready (rs := [13]) (by kernel_rfl) (by simp) (AllReadyH.cons rfl (fun K hK => ?_) AllReadyH.nil)
  go_simp
  refine hK.out _ _ trivial (fun hHeld => ?_)
  clear hK K
  try simp only [Act.put, List.getElem_toArray, List.getElem_cons_succ, List.getElem_cons_zero, List.setIfInBounds_toArray, List.set_cons_zero, List.set_cons_succ]
  refine wpAnyH_done (by kernel_rfl) ?_ _
  try simp only [Act.put, List.getElem_toArray, List.getElem_cons_succ, List.getElem_cons_zero]
  have hgp4 := HMV.out.gp.s_i0 hst4 (x := S.i0 ++ p) (by rw [List.map_append]; exact ho4)
  have hr5 := hr4.s_i0 hOk a4 (A.i0.n + n) c4 { S with i0 := S.i0 ++ p } rfl
  have hgp5 := hgp4.cell 39 (.slice a4 (A.i0.n + n) c4)
  have hk5 := (HKV.out.trans (hst4.kpt (by decide))).trans (kpt_cell 39 (.slice a4 (A.i0.n + n) c4) hgp4.rg hst4.top)
  have hm5 : GM (w4.setCell ⟨g, 39, none⟩ (.slice a4 (A.i0.n + n) c4)) role4 g { S with i0 := S.i0 ++ p } { A with i0 := ⟨a4, A.i0.n + n, c4⟩ } := ⟨hr5, ⟨hOk.rnd, hOk.hand, hOk.k0c, hOk.k0s, hOk.k1c, hOk.k1s, hOk.k2c, hOk.k2s⟩, hgp5⟩
  obtain ⟨w5, hw5⟩ : ∃ x, w4.setCell ⟨g, 39, none⟩ (.slice a4 (A.i0.n + n) c4) = x := ⟨_, rfl⟩
  rw [hw5] at hm5 hk5 ⊢
  have hrd := gread_0 w5 hm5 HL.out.1 HL.out.2.1 HL.out.2.2 hc hpar (HK.out.kpt hk5 hR) (HK.out.role hk5 hR)
  rw [← HFS.out] at hrd
  have Hrd := Lib.hid hrd
  have HK5 := Lib.hid hk5
  clear hrd hk5 hm5 hgp5 hr5 hgp4 hr4 pI fI ho4 hst4 qI hw5 hHeld
  go_wp2_with (go_at_call 27; refine Hrd.out.mono ?_; rintro x w7 ⟨rfl, role7, A7, hm7, hk7⟩; have q7 : w7.cell? ⟨g, 272, none⟩ = some (.int .u64 ((hearM 0 p S).wrong : Int)) := (hm7.row.cells hm7.ok).g272; have HM7 := Lib.hid hm7; have HK7 := Lib.hid hk7; clear hm7 hk7)
  go_ret
  exact ⟨rfl, role7, A7, HM7.out, HK5.out.trans HK7.out⟩
set_option maxHeartbeats 2000000 in
theorem ghear_1 (w : World) {role : Nat → Nat} {g : Nat} {S : MS} {A : MA} (hM : GM w role g S A) {a : Option Addr} {n c : Nat} {p : List UInt8} (hp : BS w a n c p)
    (hs : S.said.length + S.nx.length * 1000000000 ≤ 274877906944) (ho0 : S.o0.length + S.nx.length * 1000000000 ≤ 274877906944) (ho1 : S.o1.length + S.nx.length * 1000000000 ≤ 274877906944) (hc : S.sec.length ≤ 274877906944) (hpar : S.par.length ≤ 600) (hi0 : S.i0.length + n ≤ 274877906944) (hi1 : S.i1.length + n ≤ 274877906944) (hK : KT w) (hR : role 3 = 0) (hw : S.wrong = 0) (hn0 : 0 < n) :
    Calls Tryd.prog 12 #[.pointer (some ⟨g, 0, none⟩), .int .i64 1, .slice a n c] w fun e w' => e = .returned (.int .u64 ((hearM 1 p S).wrong : Int)) ∧ ∃ role' A', GM w' role' g (hearM 1 p S) A' ∧ Kpt w w' role role' := by
  have hpl := BS.len hp
  have hfs : hearM 1 p S = readM 1 (S.nx.length + 1) { S with i1 := S.i1 ++ p } := by
    unfold hearM
    rw [if_neg (by intro h; rcases h with h | h; exact h hw; rw [h] at hpl; simp at hpl; omega), if_neg (by decide), if_pos rfl]
  have hOk := hM.ok
  have hmV := hM.drew
  have hkV := (Kpt.refl w role hM.gp.top).drew
  have hpV : BS w.drew a n c p := hp.drew
  have q272 : w.cell? ⟨g, 272, none⟩ = some (.int .u64 (S.wrong : Int)) := (hM.row.cells hOk).g272
  have hwi : ((S.wrong : Int) == 0) = true := by simp [hw]
  have hn0' : 0 < (n : Int) := by omega
  have hol : A.i1.n ≤ 274877906944 := by rw [hM.gp.i1.len]; omega
  have hnb : n ≤ 274877906944 := by omega
  have HM := Lib.hid hM
  have HK := Lib.hid hK
  have HFS := Lib.hid hfs
  obtain ⟨V, hV⟩ : ∃ x, w.drew = x := ⟨_, rfl⟩
  rw [hV] at hmV hkV hpV
  have HMV := Lib.hid hmV
  have HKV := Lib.hid hkV
  have HPV := Lib.hid hpV
  have HVE := Lib.hid hV
  have HPL := Lib.hid hpl
  have HL := Lib.hid (And.intro hs (And.intro ho0 ho1))
  clear hfs hpl hM hp hmV hkV hpV hK hV hw hs ho0 ho1
  go_enter Tryd.func12, Tryd.ntmps12
  go_upto_region 6 with (fail)
  clear q272 hwi
  have qI : V.cell? ⟨g, 40, none⟩ = some (.slice A.i1.a A.i1.n A.i1.c) := (HMV.out.row.cells hOk).g40
  refine wp_region_held_drew (S := fun _ => True) (by kernel_rfl) trivial (fun hHeld => ?_)
  rw [HVE.out]
  refine wpAnyH_take (i := 0) (v := .pointer (some ⟨g, 0, none⟩)) rfl (by kernel_rfl) (by kernel_rfl) (by kernel_rfl) (fun _ _ _ h => h) (Or.inl ⟨by rfl, fun w h => by go_simp⟩) hHeld ?_
  try simp only [Act.put, List.getElem_toArray, List.getElem_cons_zero, List.setIfInBounds_toArray, List.set_cons_zero, List.set_cons_succ]
  refine wpAnyH_take (i := 1) (v := .int .i64 1) rfl (by kernel_rfl) (by kernel_rfl) (by kernel_rfl) (fun _ _ _ h => h) (Or.inl ⟨by rfl, fun w h => by go_simp⟩) hHeld ?_
  try simp only [Act.put, List.getElem_toArray, List.getElem_cons_succ, List.getElem_cons_zero, List.setIfInBounds_toArray, List.set_cons_zero, List.set_cons_succ]
  refine wpAnyH_take (i := 2) (v := .pointer (some ⟨g, 0, none⟩)) rfl (by kernel_rfl) (by kernel_rfl) (by kernel_rfl) (fun _ _ _ h => h) (Or.inl ⟨by rfl, fun w h => by go_simp⟩) hHeld ?_
  try simp only [Act.put, List.getElem_toArray, List.getElem_cons_succ, List.getElem_cons_zero, List.setIfInBounds_toArray, List.set_cons_zero, List.set_cons_succ]
  refine wpAnyH_take (i := 3) (v := .int .i64 1) rfl (by kernel_rfl) (by kernel_rfl) (by kernel_rfl) (fun _ _ _ h => h) (Or.inl ⟨by rfl, fun w h => by go_simp⟩) hHeld ?_
  try simp only [Act.put, List.getElem_toArray, List.getElem_cons_succ, List.getElem_cons_zero, List.setIfInBounds_toArray, List.set_cons_zero, List.set_cons_succ]
  refine wpAnyH_take (i := 4) (v := .pointer (some ⟨g, 0, none⟩)) rfl (by kernel_rfl) (by kernel_rfl) (by kernel_rfl) (fun _ _ _ h => h) (Or.inl ⟨by rfl, fun w h => by go_simp⟩) hHeld ?_
  try simp only [Act.put, List.getElem_toArray, List.getElem_cons_succ, List.getElem_cons_zero, List.setIfInBounds_toArray, List.set_cons_zero, List.set_cons_succ]
  refine wpAnyH_take (i := 5) (v := .pointer (some ⟨g, 39, none⟩)) rfl (by kernel_rfl) (by kernel_rfl) (by kernel_rfl) (fun _ _ _ h => h) (Or.inl ⟨by rfl, fun w h => by go_simp⟩) hHeld ?_
  try simp only [Act.put, List.getElem_toArray, List.getElem_cons_succ, List.getElem_cons_zero, List.setIfInBounds_toArray, List.set_cons_zero, List.set_cons_succ]
  refine wpAnyH_take (i := 6) (v := .pointer (some ⟨g, 40, none⟩)) rfl (by kernel_rfl) (by kernel_rfl) (by kernel_rfl) (fun _ _ _ h => h) (Or.inl ⟨by rfl, fun w h => by go_simp⟩) hHeld ?_
  try simp only [Act.put, List.getElem_toArray, List.getElem_cons_succ, List.getElem_cons_zero, List.setIfInBounds_toArray, List.set_cons_zero, List.set_cons_succ]
  refine wpAnyH_take (i := 8) (v := .slice a n c) rfl (by kernel_rfl) (by kernel_rfl) (by kernel_rfl) (fun _ _ _ h => h) (Or.inl ⟨by rfl, fun w h => by go_simp⟩) hHeld ?_
  try simp only [Act.put, List.getElem_toArray, List.getElem_cons_succ, List.getElem_cons_zero, List.setIfInBounds_toArray, List.set_cons_zero, List.set_cons_succ]
  refine wpAnyH_take (i := 10) (v := .pointer (some ⟨g, 0, none⟩)) rfl (by kernel_rfl) (by kernel_rfl) (by kernel_rfl) (fun _ _ _ h => h) (Or.inl ⟨by rfl, fun w h => by go_simp⟩) hHeld ?_
  try simp only [Act.put, List.getElem_toArray, List.getElem_cons_succ, List.getElem_cons_zero, List.setIfInBounds_toArray, List.set_cons_zero, List.set_cons_succ]
  refine wpAnyH_take (i := 11) (v := .pointer (some ⟨g, 39, none⟩)) rfl (by kernel_rfl) (by kernel_rfl) (by kernel_rfl) (fun _ _ _ h => h) (Or.inl ⟨by rfl, fun w h => by go_simp⟩) hHeld ?_
  try simp only [Act.put, List.getElem_toArray, List.getElem_cons_succ, List.getElem_cons_zero, List.setIfInBounds_toArray, List.set_cons_zero, List.set_cons_succ]
  refine wpAnyH_ready (rs := [7]) (by kernel_rfl) (by simp) (AllReadyH.cons rfl (fun K hK => ?_) AllReadyH.nil)
  go_simp
  refine hK.out _ _ trivial (fun hHeld => ?_)
  clear hK K
  try simp only [Act.put, List.getElem_toArray, List.getElem_cons_succ, List.getElem_cons_zero, List.setIfInBounds_toArray, List.set_cons_zero, List.set_cons_succ]
  refine wpAnyH_ready (rs := [9]) (by kernel_rfl) (by simp) (AllReadyH.cons rfl (fun K hK => ?_) AllReadyH.nil)
  refine S_append_X tB HMV.out.gp.i1 HPV.out _ _ rfl rfl rfl rfl (by omega) (by unfold maxLen; omega) HMV.out.gp.top ?_
  intro a4 c4 w4 role4 ho4 hst4
  have hr4 := HMV.out.row.keep (hst4.blk g HMV.out.gp.gl (by rw [HMV.out.gp.rg]; decide))
  have pI : w4.cell? ⟨g, 40, none⟩ = some (.slice A.i1.a A.i1.n A.i1.c) := (hr4.cells hOk).g40
  have fI := hr4.fr 40
  refine hK.out _ _ trivial (fun hHeld => ?_)
  clear hK K
  try simp only [Act.put, List.getElem_toArray, List.getElem_cons_succ, List.getElem_cons_zero, List.setIfInBounds_toArray, List.set_cons_zero, List.set_cons_succ]
  refine wpAnyH_take (i := 12) (v := .pointer (some ⟨g, 40, none⟩)) rfl (by kernel_rfl) (by kernel_rfl) (by kernel_rfl) (fun _ _ _ h => h) (Or.inl ⟨by rfl, fun w h => by go_simp⟩) hHeld ?_
  try simp only [Act.put, List.getElem_toArray, List.getElem_cons_succ, List.getElem_cons_zero, List.setIfInBounds_toArray, List.set_cons_zero, List.set_cons_succ]
  refine wpAnyH_ready (rs := [13]) (by kernel_rfl) (by simp) (AllReadyH.cons rfl (fun K hK => ?_) AllReadyH.nil)
  go_simp
  refine hK.out _ _ trivial (fun hHeld => ?_)
  clear hK K
  try simp only [Act.put, List.getElem_toArray, List.getElem_cons_succ, List.getElem_cons_zero, List.setIfInBounds_toArray, List.set_cons_zero, List.set_cons_succ]
  refine wpAnyH_done (by kernel_rfl) ?_ _
  try simp only [Act.put, List.getElem_toArray, List.getElem_cons_succ, List.getElem_cons_zero]
  have hgp4 := HMV.out.gp.s_i1 hst4 (x := S.i1 ++ p) (by rw [List.map_append]; exact ho4)
  have hr5 := hr4.s_i1 hOk a4 (A.i1.n + n) c4 { S with i1 := S.i1 ++ p } rfl
  have hgp5 := hgp4.cell 40 (.slice a4 (A.i1.n + n) c4)
  have hk5 := (HKV.out.trans (hst4.kpt (by decide))).trans (kpt_cell 40 (.slice a4 (A.i1.n + n) c4) hgp4.rg hst4.top)
  have hm5 : GM (w4.setCell ⟨g, 40, none⟩ (.slice a4 (A.i1.n + n) c4)) role4 g { S with i1 := S.i1 ++ p } { A with i1 := ⟨a4, A.i1.n + n, c4⟩ } := ⟨hr5, ⟨hOk.rnd, hOk.hand, hOk.k0c, hOk.k0s, hOk.k1c, hOk.k1s, hOk.k2c, hOk.k2s⟩, hgp5⟩
  obtain ⟨w5, hw5⟩ : ∃ x, w4.setCell ⟨g, 40, none⟩ (.slice a4 (A.i1.n + n) c4) = x := ⟨_, rfl⟩
  rw [hw5] at hm5 hk5 ⊢
  have hrd := gread_1 w5 hm5 HL.out.1 HL.out.2.1 HL.out.2.2 hc hpar (HK.out.kpt hk5 hR) (HK.out.role hk5 hR)
  rw [← HFS.out] at hrd
  have Hrd := Lib.hid hrd
  have HK5 := Lib.hid hk5
  clear hrd hk5 hm5 hgp5 hr5 hgp4 hr4 pI fI ho4 hst4 qI hw5 hHeld
  go_wp2_with (go_at_call 27; refine Hrd.out.mono ?_; rintro x w7 ⟨rfl, role7, A7, hm7, hk7⟩; have q7 : w7.cell? ⟨g, 272, none⟩ = some (.int .u64 ((hearM 1 p S).wrong : Int)) := (hm7.row.cells hm7.ok).g272; have HM7 := Lib.hid hm7; have HK7 := Lib.hid hk7; clear hm7 hk7)
  go_ret
  exact ⟨rfl, role7, A7, HM7.out, HK5.out.trans HK7.out⟩
theorem ghear_bad (w : World) {role : Nat → Nat} {g : Nat} {S : MS} {A : MA} (hM : GM w role g S A) {a : Option Addr} {n c : Nat} {p : List UInt8} (hp : BS w a n c p)
    (hs : S.said.length + S.nx.length * 1000000000 ≤ 274877906944) (ho0 : S.o0.length + S.nx.length * 1000000000 ≤ 274877906944) (ho1 : S.o1.length + S.nx.length * 1000000000 ≤ 274877906944) (hc : S.sec.length ≤ 274877906944) (hpar : S.par.length ≤ 600) (hi0 : S.i0.length + n ≤ 274877906944) (hi1 : S.i1.length + n ≤ 274877906944) (hK : KT w) (hR : role 3 = 0) (hw : S.wrong = 0) (hn0 : 0 < n) (lv : Int) (h0 : lv ≠ 0) (h1 : lv ≠ 1) :
    Calls Tryd.prog 12 #[.pointer (some ⟨g, 0, none⟩), .int .i64 lv, .slice a n c] w fun e w' => e = .returned (.int .u64 ((hearM lv p S).wrong : Int)) ∧ ∃ role' A', GM w' role' g (hearM lv p S) A' ∧ Kpt w w' role role' := by
  have hpl := BS.len hp
  have hfs : hearM lv p S = { S with wrong := 266 } := by
    unfold hearM
    rw [if_neg (by intro h; rcases h with h | h; exact h hw; rw [h] at hpl; simp at hpl; omega), if_neg h0, if_neg h1]
  have hOk := hM.ok
  have q272 : w.cell? ⟨g, 272, none⟩ = some (.int .u64 (S.wrong : Int)) := (hM.row.cells hOk).g272
  have f272 := hM.row.fr 272
  have hwi : ((S.wrong : Int) == 0) = true := by simp [hw]
  have hn0' : 0 < (n : Int) := by omega
  have hb0 : (lv != 0) = true := by simpa using h0
  have hb1 : (lv != 1) = true := by simpa using h1
  obtain ⟨hmw, hkw⟩ := hM.set_wrong 266
  have HMW := Lib.hid hmw
  have HKW := Lib.hid hkw
  have HFS := Lib.hid hfs
  have q7 := (hmw.row.cells hmw.ok).g272
  clear hfs hpl hM hp hK hw hs ho0 ho1 hmw hkw
  go_enter Tryd.func12, Tryd.ntmps12
  go_wp2
  go_ret
  rw [HFS.out]
  exact ⟨rfl, role, ⟨A, HMW.out⟩, HKW.out⟩
theorem ghear_no (w : World) {role : Nat → Nat} {g : Nat} {S : MS} {A : MA} (hM : GM w role g S A) {a : Option Addr} {n c : Nat} {p : List UInt8} (hp : BS w a n c p)
    (hs : S.said.length + S.nx.length * 1000000000 ≤ 274877906944) (ho0 : S.o0.length + S.nx.length * 1000000000 ≤ 274877906944) (ho1 : S.o1.length + S.nx.length * 1000000000 ≤ 274877906944) (hc : S.sec.length ≤ 274877906944) (hpar : S.par.length ≤ 600) (hi0 : S.i0.length + n ≤ 274877906944) (hi1 : S.i1.length + n ≤ 274877906944) (hK : KT w) (hR : role 3 = 0) (hw : S.wrong ≠ 0 ∨ n = 0) (lv : Int) :
    Calls Tryd.prog 12 #[.pointer (some ⟨g, 0, none⟩), .int .i64 lv, .slice a n c] w fun e w' => e = .returned (.int .u64 ((hearM lv p S).wrong : Int)) ∧ ∃ role' A', GM w' role' g (hearM lv p S) A' ∧ Kpt w w' role role' := by
  have hpl := BS.len hp
  have hfs : hearM lv p S = S := by
    unfold hearM
    rw [if_pos (by rcases hw with h | h; exact .inl h; exact .inr (List.eq_nil_of_length_eq_zero (by omega)))]
  have hOk := hM.ok
  have q272 : w.cell? ⟨g, 272, none⟩ = some (.int .u64 (S.wrong : Int)) := (hM.row.cells hOk).g272
  have HMW := Lib.hid hM
  have HKW := Lib.hid (Kpt.refl w role hM.gp.top)
  have HFS := Lib.hid hfs
  clear hfs hpl hM hp hK hs ho0 ho1
  by_cases hw0 : S.wrong = 0
  · have hwi : ((S.wrong : Int) == 0) = true := by simp [hw0]
    have hn : n = 0 := by rcases hw with h | h; exact absurd hw0 h; exact h
    subst hn
    clear hw hw0
    go_enter Tryd.func12, Tryd.ntmps12
    go_wp2
    go_ret
    rw [HFS.out]
    exact ⟨rfl, role, A, HMW.out, HKW.out⟩
  · have hwi : ((S.wrong : Int) == 0) = false := by simp; omega
    clear hw hw0
    go_enter Tryd.func12, Tryd.ntmps12
    go_wp2
    go_ret
    rw [HFS.out]
    exact ⟨rfl, role, A, HMW.out, HKW.out⟩
theorem ghear_any (w : World) {role : Nat → Nat} {g : Nat} {S : MS} {A : MA} (hM : GM w role g S A) {a : Option Addr} {n c : Nat} {p : List UInt8} (hp : BS w a n c p)
    (hs : S.said.length + S.nx.length * 1000000000 ≤ 274877906944) (ho0 : S.o0.length + S.nx.length * 1000000000 ≤ 274877906944) (ho1 : S.o1.length + S.nx.length * 1000000000 ≤ 274877906944) (hc : S.sec.length ≤ 274877906944) (hpar : S.par.length ≤ 600) (hi0 : S.i0.length + n ≤ 274877906944) (hi1 : S.i1.length + n ≤ 274877906944) (hK : KT w) (hR : role 3 = 0) (lv : Int) :
    Calls Tryd.prog 12 #[.pointer (some ⟨g, 0, none⟩), .int .i64 lv, .slice a n c] w fun e w' => e = .returned (.int .u64 ((hearM lv p S).wrong : Int)) ∧ ∃ role' A', GM w' role' g (hearM lv p S) A' ∧ Kpt w w' role role' := by
  by_cases h : S.wrong ≠ 0 ∨ n = 0
  · exact ghear_no w hM hp hs ho0 ho1 hc hpar hi0 hi1 hK hR h lv
  · have hw : S.wrong = 0 := Classical.byContradiction fun h2 => h (.inl h2)
    have hn : 0 < n := Nat.pos_of_ne_zero fun h2 => h (.inr h2)
    by_cases h0 : lv = 0
    · subst h0; exact ghear_0 w hM hp hs ho0 ho1 hc hpar hi0 hi1 hK hR hw hn
    · by_cases h1 : lv = 1
      · subst h1; exact ghear_1 w hM hp hs ho0 ho1 hc hpar hi0 hi1 hK hR hw hn
      · exact ghear_bad w hM hp hs ho0 ho1 hc hpar hi0 hi1 hK hR hw hn lv h0 h1
end Go.Proofs.YtkhcpnmbhbhcgaaDoor

/- Greet: bytes that are heard in parts are bytes that are heard at once (plain). -/
set_option maxRecDepth 100000
set_option linter.unusedVariables false
namespace Go.Proofs.YtkhcpnmbhbhcgaaDoor
open Go.RowKit Go.Joins
def setI (S : MS) (x y : List UInt8) : MS := { S with i0 := x, i1 := y }
theorem sayS_setI (lv k : Nat) (p : List UInt8) (S : MS) (x y : List UInt8) : sayS lv k p (setI S x y) = setI (sayS lv k p S) x y := rfl
theorem agreeS_setI (S : MS) (x y : List UInt8) : agreeS (setI S x y) = setI (agreeS S) x y := rfl
theorem partS_setI (S : MS) (x y : List UInt8) : partS (setI S x y) = setI (partS S) x y := rfl
theorem finS_setI (S : MS) (whole p x y : List UInt8) : finS (setI S x y) whole p = (setI (finS S whole p).1 x y, (finS S whole p).2) := by
  unfold finS
  by_cases c1 : p.length ≠ 32
  · rw [if_pos c1, if_pos c1]
  · rw [if_neg c1, if_neg c1]
    by_cases c2 : p ≠ fmF (if S.server then S.k1.c else S.k1.s) S.said
    · rw [if_pos c2, if_pos (by exact c2)]
    · rw [if_neg c2, if_neg (by exact c2)]
      by_cases hs : S.server = true
      · rw [if_pos hs, if_pos (by exact hs)]; rfl
      · rw [if_neg hs, if_neg (by exact hs)]; rfl
theorem helT_setI (S : MS) (whole id t r2 x y : List UInt8) : helT (setI S x y) whole id t r2 = (setI (helT S whole id t r2).1 x y, (helT S whole id t r2).2) := by
  unfold helT
  by_cases c1 : r2.length ≠ 32
  · rw [if_pos c1, if_pos c1]
  · rw [if_neg c1, if_neg c1]
    by_cases c2 : id ≠ S.id
    · rw [if_pos c2, if_pos (by exact c2)]
    · rw [if_neg c2, if_neg (by exact c2)]
      by_cases c3 : r2 ≠ binF S.sec (whole.take (whole.length - 32))
      · rw [if_pos c3, if_pos (by exact c3)]
      · rw [if_neg c3, if_neg (by exact c3)]; rfl
theorem helS_setI (S : MS) (whole p x y : List UInt8) : helS (setI S x y) whole p = (setI (helS S whole p).1 x y, (helS S whole p).2) := by
  unfold helS
  by_cases c1 : p.length < 64
  · rw [if_pos c1, if_pos c1]
  · rw [if_neg c1, if_neg c1]
    cases ttS (p.drop 32) 64 with
    | none => rfl
    | some ir =>
      dsimp only
      unfold helU
      cases ttS ir.2 512 with
      | none => rfl
      | some tr => exact helT_setI S whole ir.1 tr.1 tr.2 x y
theorem termS_setI (S : MS) (whole p x y : List UInt8) : termS (setI S x y) whole p = (setI (termS S whole p).1 x y, (termS S whole p).2) := by
  unfold termS
  cases ttS p 512 with
  | none => rfl
  | some tr =>
    dsimp only
    by_cases c : 0 < tr.2.length
    · rw [if_pos c, if_pos c]
    · rw [if_neg c, if_neg c]; rfl
theorem takeM_setI (S : MS) (kind : Nat) (whole p x y : List UInt8) : takeM (setI S x y) kind whole p = (setI (takeM S kind whole p).1 x y, (takeM S kind whole p).2) := by
  unfold takeM
  by_cases k1 : kind = 1
  · rw [if_pos k1, if_pos k1]; exact helS_setI S whole p x y
  · rw [if_neg k1, if_neg k1]
    by_cases k2 : kind = 2
    · rw [if_pos k2, if_pos k2]
      by_cases c : p.length ≠ 32
      · rw [if_pos c, if_pos c]
      · rw [if_neg c, if_neg c]; rfl
    · rw [if_neg k2, if_neg k2]
      by_cases k8 : kind = 8
      · rw [if_pos k8, if_pos k8]; exact termS_setI S whole p x y
      · rw [if_neg k8, if_neg k8]; exact finS_setI S whole p x y
/-- what a message leaves of what is read and of what is next -/
structure Lv (S S' : MS) : Prop where
  nx : S'.nx = S.nx
  i0 : S'.i0 = S.i0
  i1 : S'.i1 = S.i1
theorem finS_lv (S : MS) (whole p : List UInt8) : Lv S (finS S whole p).1 := by
  unfold finS
  by_cases c1 : p.length ≠ 32
  · rw [if_pos c1]; exact ⟨rfl, rfl, rfl⟩
  · rw [if_neg c1]
    by_cases c2 : p ≠ fmF (if S.server then S.k1.c else S.k1.s) S.said
    · rw [if_pos c2]; exact ⟨rfl, rfl, rfl⟩
    · rw [if_neg c2]
      by_cases hs : S.server = true
      · rw [if_pos hs]; exact ⟨rfl, rfl, rfl⟩
      · rw [if_neg hs]; exact ⟨rfl, rfl, rfl⟩
theorem takeM_lv (S : MS) (kind : Nat) (whole p : List UInt8) : Lv S (takeM S kind whole p).1 := by
  unfold takeM
  split
  · unfold helS
    split
    · exact ⟨rfl, rfl, rfl⟩
    · split
      · exact ⟨rfl, rfl, rfl⟩
      · unfold helU
        split
        · exact ⟨rfl, rfl, rfl⟩
        · unfold helT
          split
          · exact ⟨rfl, rfl, rfl⟩
          · split
            · exact ⟨rfl, rfl, rfl⟩
            · split <;> exact ⟨rfl, rfl, rfl⟩
  · split
    · split <;> exact ⟨rfl, rfl, rfl⟩
    · split
      · unfold termS
        split
        · exact ⟨rfl, rfl, rfl⟩
        · split <;> exact ⟨rfl, rfl, rfl⟩
      · exact finS_lv S whole p
/-- messages that are whole are read -/
noncomputable def RD (lv : Nat) (S : MS) : MS := readM lv (S.nx.length + 1) S
/-- one message -/
noncomputable def oneM (lv : Nat) (x : Nat × Nat) (nx : List (Nat × Nat)) (S : MS) : MS :=
  let r := takeM (cutI lv (len2 (inS lv S)) { S with nx := nx }) ((inS lv S).getD 0 0).toNat ((inS lv S).take (len2 (inS lv S))) (((inS lv S).take (len2 (inS lv S))).drop 4)
  { r.1 with wrong := r.2 }
theorem oneM_nx (lv : Nat) (x : Nat × Nat) (nx : List (Nat × Nat)) (S : MS) : (oneM lv x nx S).nx = nx := by
  unfold oneM
  exact (takeM_lv _ _ _ _).nx
theorem RD_eq (lv : Nat) (S : MS) : RD lv S = if S.wrong ≠ 0 ∨ inS lv S = [] then S else
    if 4 ≤ (inS lv S).length ∧ 1024 < lenG (inS lv S) then { S with wrong := 306 } else
    match S.nx with
    | [] => { S with wrong := 266 }
    | x :: nx =>
      if x ≠ (((inS lv S).getD 0 0).toNat, lv) then { S with wrong := 266 } else
      if (inS lv S).length < 4 then S else
      if (inS lv S).length < len2 (inS lv S) then S else RD lv (oneM lv x nx S) := by
  show readM lv (S.nx.length + 1) S = _
  rw [readM]
  split
  · rfl
  · split
    · rfl
    · cases hn : S.nx with
      | nil => rfl
      | cons x nx =>
        dsimp only
        split
        · rfl
        · split
          · rfl
          · split
            · rfl
            · unfold RD
              rw [oneM_nx lv x nx S]
              rfl
/-- more to read -/
def addI (lv : Nat) (S : MS) (c : List UInt8) : MS := { S with i0 := if lv = 0 then S.i0 ++ c else S.i0, i1 := if lv = 0 then S.i1 else S.i1 ++ c }
theorem inS_addI (lv : Nat) (S : MS) (c : List UInt8) : inS lv (addI lv S c) = inS lv S ++ c := by
  unfold inS addI
  by_cases h : lv = 0 <;> simp [h]
theorem addI_nil (lv : Nat) (S : MS) : addI lv S [] = S := by
  unfold addI; simp
theorem addI_app (lv : Nat) (S : MS) (c d : List UInt8) : addI lv (addI lv S c) d = addI lv S (c ++ d) := by
  unfold addI
  by_cases h : lv = 0 <;> simp [h]
theorem addI_setI (lv : Nat) (S : MS) (c : List UInt8) : addI lv S c = setI S (if lv = 0 then S.i0 ++ c else S.i0) (if lv = 0 then S.i1 else S.i1 ++ c) := rfl
theorem getD_app {b c : List UInt8} {i : Nat} (h : i < b.length) : (b ++ c).getD i 0 = b.getD i 0 := by
  simp [List.getD_eq_getElem?_getD, List.getElem?_append_left h]
theorem oneM_addI (lv : Nat) (x : Nat × Nat) (nx : List (Nat × Nat)) (S : MS) (c : List UInt8) (h4 : 4 ≤ (inS lv S).length) (h : len2 (inS lv S) ≤ (inS lv S).length) : oneM lv x nx (addI lv S c) = addI lv (oneM lv x nx S) c := by
  have e2 : len2 (inS lv S ++ c) = len2 (inS lv S) := by
    unfold len2; rw [getD_app (by omega), getD_app (by omega)]
  unfold oneM
  rw [inS_addI, e2, getD_app (by omega), List.take_append_of_le_length h]
  have hc : cutI lv (len2 (inS lv S)) { addI lv S c with nx := nx } = setI (cutI lv (len2 (inS lv S)) { S with nx := nx }) (if lv = 0 then S.i0.drop (len2 (inS lv S)) ++ c else S.i0) (if lv = 0 then S.i1 else S.i1.drop (len2 (inS lv S)) ++ c) := by
    by_cases h0 : lv = 0
    · have hi : inS lv S = S.i0 := by unfold inS; rw [if_pos h0]
      rw [hi] at h ⊢
      simp only [cutI, addI, setI, h0, if_true]
      rw [List.drop_append_of_le_length h]
    · have hi : inS lv S = S.i1 := by unfold inS; rw [if_neg h0]
      rw [hi] at h ⊢
      simp only [cutI, addI, setI, h0, if_false]
      rw [List.drop_append_of_le_length h]
  rw [hc, takeM_setI]
  dsimp only
  rw [addI_setI]
  have hl := takeM_lv (cutI lv (len2 (inS lv S)) { S with nx := nx }) ((inS lv S).getD 0 0).toNat ((inS lv S).take (len2 (inS lv S))) (((inS lv S).take (len2 (inS lv S))).drop 4)
  dsimp only
  rw [hl.i0, hl.i1]
  by_cases h0 : lv = 0
  · simp only [setI, cutI, h0, if_true]
  · simp only [setI, cutI, h0, if_false]
theorem RD_wrong (lv : Nat) (S : MS) (h : S.wrong ≠ 0) : RD lv S = S := by rw [RD_eq, if_pos (.inl h)]
theorem RD_nil (lv : Nat) (S : MS) (h : inS lv S = []) : RD lv S = S := by rw [RD_eq, if_pos (.inr h)]
theorem RD_app (lv : Nat) (c : List UInt8) : ∀ (n : Nat) (S : MS), S.nx.length = n → (RD lv (addI lv S c)).wrong = 0 → RD lv (addI lv (RD lv S) c) = RD lv (addI lv S c) := by
  intro n
  induction n with
  | zero =>
    intro S hn hw
    by_cases h0 : S.wrong ≠ 0
    · rw [RD_wrong lv S h0]
    · by_cases hb : inS lv S = []
      · rw [RD_nil lv S hb]
      · rw [RD_eq lv (addI lv S c), if_neg (by rw [inS_addI]; simp [hb]; exact Decidable.not_not.1 h0)] at hw
        split at hw
        · cases hw
        · have hx : (addI lv S c).nx = [] := List.eq_nil_of_length_eq_zero hn
          rw [hx] at hw
          cases hw
  | succ n ih =>
    intro S hn hw
    by_cases h0 : S.wrong ≠ 0
    · rw [RD_wrong lv S h0]
    · by_cases hb : inS lv S = []
      · rw [RD_nil lv S hb]
      · have hin := inS_addI lv S c
        have hne : ¬ ((addI lv S c).wrong ≠ 0 ∨ inS lv (addI lv S c) = []) := by rw [hin]; simp [hb]; exact Decidable.not_not.1 h0
        cases hx : S.nx with
        | nil => rw [hx] at hn; cases hn
        | cons x nx =>
          have hx' : (addI lv S c).nx = x :: nx := hx
          have hp : 0 < (inS lv S).length := List.length_pos_iff.2 hb
          rw [RD_eq lv (addI lv S c), if_neg hne] at hw
          split at hw
          · cases hw
          · next hg =>
            rw [hx'] at hw
            dsimp only at hw
            split at hw
            · cases hw
            · next hk =>
              rw [hin, getD_app hp] at hk
              rw [hin, List.length_append] at hg
              by_cases s4 : (inS lv S).length < 4
              · have : RD lv S = S := by
                  rw [RD_eq, if_neg (by intro h; rcases h with h | h; exact h0 h; exact hb h), if_neg (by omega), hx]
                  dsimp only
                  rw [if_neg hk, if_pos s4]
                rw [this]
              · have e2 : len2 (inS lv S ++ c) = len2 (inS lv S) := by
                  unfold len2; rw [getD_app (by omega), getD_app (by omega)]
                have eg : lenG (inS lv S ++ c) = lenG (inS lv S) := by
                  unfold lenG; rw [getD_app (by omega), getD_app (by omega), getD_app (by omega)]
                rw [eg] at hg
                have hS : RD lv S = if (inS lv S).length < len2 (inS lv S) then S else RD lv (oneM lv x nx S) := by
                  rw [RD_eq, if_neg (by intro h; rcases h with h | h; exact h0 h; exact hb h), if_neg (by omega), hx]
                  dsimp only
                  rw [if_neg hk, if_neg s4]
                by_cases sl : (inS lv S).length < len2 (inS lv S)
                · rw [hS, if_pos sl]
                · rw [hS, if_neg sl]
                  have hA : RD lv (addI lv S c) = RD lv (addI lv (oneM lv x nx S) c) := by
                    rw [RD_eq lv (addI lv S c), if_neg hne, hin, List.length_append, eg, e2, getD_app hp, if_neg (by omega), hx']
                    dsimp only
                    rw [if_neg hk, if_neg (by omega), if_neg (by omega), oneM_addI lv x nx S c (by omega) (by omega)]
                  rw [hin, List.length_append, e2, if_neg (by omega), if_neg (by omega), oneM_addI lv x nx S c (by omega) (by omega)] at hw
                  rw [hA]
                  refine ih _ ?_ hw
                  rw [oneM_nx]
                  rw [hx] at hn
                  simpa using hn
/-- the levels at which is heard -/
theorem hearM_RD (lv : Nat) (hlv : lv < 2) (p : List UInt8) (S : MS) : hearM (lv : Int) p S = if S.wrong ≠ 0 ∨ p = [] then S else RD lv (addI lv S p) := by
  unfold hearM
  split
  · rfl
  · rcases (show lv = 0 ∨ lv = 1 by omega) with rfl | rfl <;> rfl
theorem hearM_app (lv : Nat) (hlv : lv < 2) (p q : List UInt8) (S : MS) (hw : (hearM lv (p ++ q) S).wrong = 0) : hearM lv q (hearM lv p S) = hearM lv (p ++ q) S := by
  by_cases h0 : S.wrong ≠ 0
  · exfalso
    rw [hearM_RD lv hlv, if_pos (.inl h0)] at hw
    exact h0 hw
  · have h0' : S.wrong = 0 := Decidable.not_not.1 h0
    by_cases hp : p = []
    · subst hp
      rw [hearM_RD lv hlv [] S, if_pos (.inr rfl), List.nil_append]
    · by_cases hq : q = []
      · subst hq
        rw [hearM_RD lv hlv [] _, if_pos (.inr rfl), List.append_nil]
      · have e1 : hearM lv p S = RD lv (addI lv S p) := by rw [hearM_RD lv hlv, if_neg (by simp [h0', hp])]
        have e2 : hearM lv (p ++ q) S = RD lv (addI lv S (p ++ q)) := by rw [hearM_RD lv hlv, if_neg (by simp [h0', hp])]
        rw [e2] at hw ⊢
        rw [e1, hearM_RD lv hlv]
        rw [← addI_app] at hw ⊢
        have hA := RD_app lv q _ (addI lv S p) rfl hw
        by_cases hx : (RD lv (addI lv S p)).wrong ≠ 0
        · exfalso
          rw [RD_wrong lv (addI lv (RD lv (addI lv S p)) q) hx] at hA
          rw [← hA] at hw
          exact hx hw
        · rw [if_neg (by intro h; rcases h with h | h; exact hx h; exact hq h)]
          exact hA
end Go.Proofs.YtkhcpnmbhbhcgaaDoor

/- Greet: two that share a secret agree (plain). -/
set_option maxRecDepth 100000
set_option linter.unusedVariables false
namespace Go.Proofs.YtkhcpnmbhbhcgaaDoor
open Go.RowKit Go.Joins
def zp : PairS := ⟨z32, z32, false⟩
/-- a side that nothing was done with -/
def baseM (server : Bool) (rnd id sec par : List UInt8) (nx : List (Nat × Nat)) : MS := ⟨server, rnd, id, sec, par, [], [], [], [], [], nx, z32, zp, zp, zp, [], false, false, 0⟩
/-- a new side -/
noncomputable def newM (server : Bool) (rnd id sec par : List UInt8) : MS :=
  if server then baseM true rnd id sec par [(1, 0), (20, 1)] else helloS (baseM false rnd id sec par [(2, 0), (8, 1), (20, 1)])
theorem takeS_num (n : Nat) (hn : n < 16384) (r : List UInt8) : takeS (numS n ++ r) = some (n, r) := by
  unfold numS
  split
  · next h =>
    have hb : (UInt8.ofNat n).toNat = n := by rw [UInt8.toNat_ofNat']; omega
    rw [List.singleton_append, takeS_cons, hb, Nat.div_eq_of_lt h, if_neg (by simp)]
    simp [beNat, Nat.mod_eq_of_lt h]
  · next h =>
    have hb : (UInt8.ofNat (n / 256 + 64)).toNat = n / 256 + 64 := by rw [UInt8.toNat_ofNat']; omega
    have hd : (n / 256 + 64) / 64 = 1 := by omega
    have hc : (UInt8.ofNat n).toNat = n % 256 := by rw [UInt8.toNat_ofNat']
    rw [List.cons_append, List.cons_append, List.nil_append, takeS_cons, hb, hd, if_neg (by simp)]
    simp [beNat]
    omega
theorem ttS_text (t r : List UInt8) (m : Nat) (hm : t.length ≤ m) (ht : t.length < 16384) : ttS (textS t ++ r) m = some (t, r) := by
  unfold ttS textS
  rw [List.append_assoc, takeS_num _ ht]
  dsimp only
  rw [if_neg (by rw [List.length_append]; omega), List.take_left, List.drop_left]
def fin0 (r : MS × Nat) : MS := { r.1 with wrong := r.2 }
theorem g_get (k : Nat) (hk : k < 256) (p rest : List UInt8) (hp : p.length ≤ 1024) : ((gmsg k p ++ rest).getD 0 0).toNat = k ∧ lenG (gmsg k p ++ rest) = p.length ∧ len2 (gmsg k p ++ rest) = 4 + p.length := by
  have h0 : ((gmsg k p ++ rest).getD 0 0).toNat = k := by
    simp [gmsg, UInt8.toNat_ofNat']; omega
  have h1 : ((gmsg k p ++ rest).getD 1 0).toNat = 0 := by
    simp [gmsg, UInt8.toNat_ofNat']; omega
  have h2 : ((gmsg k p ++ rest).getD 2 0).toNat = p.length / 256 := by
    simp [gmsg, UInt8.toNat_ofNat']; omega
  have h3 : ((gmsg k p ++ rest).getD 3 0).toNat = p.length % 256 := by
    simp [gmsg, UInt8.toNat_ofNat']
  refine ⟨h0, ?_, ?_⟩
  · unfold lenG; rw [h1, h2, h3]; omega
  · unfold len2; rw [h2, h3]; omega
theorem RD_one (lv k : Nat) (hk : k < 256) (p rest : List UInt8) (hp : p.length ≤ 1024) (S : MS) (hw : S.wrong = 0) (hi : inS lv S = gmsg k p ++ rest) (nx : List (Nat × Nat)) (hn : S.nx = (k, lv) :: nx) :
    RD lv S = RD lv (fin0 (takeM (cutI lv (4 + p.length) { S with nx := nx }) k (gmsg k p) p)) := by
  obtain ⟨h0, h1, h2⟩ := g_get k hk p rest hp
  have hl := gmsg_len k p
  rw [RD_eq, if_neg (by rw [hi]; simp [hw, gmsg]), hi, h1, if_neg (by omega), hn]
  dsimp only
  rw [h0, h2, if_neg (by simp), if_neg (by rw [List.length_append]; omega), if_neg (by rw [List.length_append]; omega)]
  unfold oneM
  rw [hi, h0, h2, List.take_append_of_le_length (by omega), List.take_of_length_le (by omega)]
  have : (gmsg k p).drop 4 = p := by simp [gmsg]
  rw [this]
  rfl
theorem RD_0 (k : Nat) (hk : k < 256) (p rest : List UInt8) (hp : p.length ≤ 1024) (S : MS) (hw : S.wrong = 0) (nx : List (Nat × Nat)) (hn : S.nx = (k, 0) :: nx) :
    RD 0 { S with i0 := gmsg k p ++ rest } = RD 0 (fin0 (takeM { S with i0 := rest, nx := nx } k (gmsg k p) p)) := by
  rw [RD_one 0 k hk p rest hp { S with i0 := gmsg k p ++ rest } hw rfl nx hn]
  have : (gmsg k p ++ rest).drop (4 + p.length) = rest := by rw [← gmsg_len k p, List.drop_left]
  unfold cutI
  simp only [if_true, this]
theorem RD_1 (k : Nat) (hk : k < 256) (p rest : List UInt8) (hp : p.length ≤ 1024) (S : MS) (hw : S.wrong = 0) (nx : List (Nat × Nat)) (hn : S.nx = (k, 1) :: nx) :
    RD 1 { S with i1 := gmsg k p ++ rest } = RD 1 (fin0 (takeM { S with i1 := rest, nx := nx } k (gmsg k p) p)) := by
  rw [RD_one 1 k hk p rest hp { S with i1 := gmsg k p ++ rest } hw rfl nx hn]
  have : (gmsg k p ++ rest).drop (4 + p.length) = rest := by rw [← gmsg_len k p, List.drop_left]
  unfold cutI
  simp only [show ¬ ((1 : Nat) = 0) by decide, if_false, this]
section
variable (rA rB id sec pA pB : List UInt8)
/-- what both say -/
def hP : List UInt8 := rA ++ textS id ++ textS pA
noncomputable def hB : List UInt8 := hP rA id pA ++ binF sec ((gmsg 1 (hP rA id pA ++ z32)).take ((gmsg 1 (hP rA id pA ++ z32)).length - 32))
noncomputable def hH : List UInt8 := gmsg 1 (hB rA id sec pA)
noncomputable def hA1 : List UInt8 := hH rA id sec pA ++ gmsg 2 rB
noncomputable def hh : List UInt8 := latF (earF sec)
noncomputable def hK1 : PairS := ⟨labF (hh sec) [99, 32, 104, 115, 32, 116, 114, 97, 102, 102, 105, 99] (sumF (hA1 rA rB id sec pA)), labF (hh sec) [115, 32, 104, 115, 32, 116, 114, 97, 102, 102, 105, 99] (sumF (hA1 rA rB id sec pA)), true⟩
noncomputable def hA2 : List UInt8 := hA1 rA rB id sec pA ++ gmsg 8 (textS pB)
noncomputable def hF1 : List UInt8 := fmF (hK1 rA rB id sec pA).s (hA2 rA rB id sec pA pB)
noncomputable def hA3 : List UInt8 := hA2 rA rB id sec pA pB ++ gmsg 20 (hF1 rA rB id sec pA pB)
noncomputable def hK2 : PairS := ⟨labF (latF (hh sec)) [99, 32, 97, 112, 32, 116, 114, 97, 102, 102, 105, 99] (sumF (hA3 rA rB id sec pA pB)), labF (latF (hh sec)) [115, 32, 97, 112, 32, 116, 114, 97, 102, 102, 105, 99] (sumF (hA3 rA rB id sec pA pB)), true⟩
noncomputable def hF2 : List UInt8 := fmF (hK1 rA rB id sec pA).c (hA3 rA rB id sec pA pB)
noncomputable def hA4 : List UInt8 := hA3 rA rB id sec pA pB ++ gmsg 20 (hF2 rA rB id sec pA pB)
/-- the states, one by one -/
noncomputable def cl0 : MS := ⟨false, rA, id, sec, pA, hH rA id sec pA, hH rA id sec pA, [], [], [], [(2, 0), (8, 1), (20, 1)], z32, zp, zp, zp, [], false, false, 0⟩
noncomputable def cl1 : MS := ⟨false, rA, id, sec, pA, hH rA id sec pA, [], [], [], [], [(2, 0), (8, 1), (20, 1)], z32, zp, zp, zp, [], false, false, 0⟩
noncomputable def cl2 : MS := ⟨false, rA, id, sec, pA, hA1 rA rB id sec pA, [], [], [], [], [(8, 1), (20, 1)], hh sec, zp, hK1 rA rB id sec pA, zp, [], false, false, 0⟩
noncomputable def cl3 : MS := ⟨false, rA, id, sec, pA, hA4 rA rB id sec pA pB, [], gmsg 20 (hF2 rA rB id sec pA pB), [], [], [], hh sec, zp, hK1 rA rB id sec pA, hK2 rA rB id sec pA pB, pB, true, true, 0⟩
noncomputable def cl4 : MS := ⟨false, rA, id, sec, pA, hA4 rA rB id sec pA pB, [], [], [], [], [], hh sec, zp, hK1 rA rB id sec pA, hK2 rA rB id sec pA pB, pB, true, true, 0⟩
noncomputable def sv1 : MS := ⟨true, rB, id, sec, pB, hA3 rA rB id sec pA pB, gmsg 2 rB, gmsg 8 (textS pB) ++ gmsg 20 (hF1 rA rB id sec pA pB), [], [], [(20, 1)], hh sec, zp, hK1 rA rB id sec pA, hK2 rA rB id sec pA pB, pA, true, false, 0⟩
noncomputable def sv2 : MS := ⟨true, rB, id, sec, pB, hA3 rA rB id sec pA pB, [], [], [], [], [(20, 1)], hh sec, zp, hK1 rA rB id sec pA, hK2 rA rB id sec pA pB, pA, true, false, 0⟩
noncomputable def sv3 : MS := ⟨true, rB, id, sec, pB, hA4 rA rB id sec pA pB, [], [], [], [], [], hh sec, zp, hK1 rA rB id sec pA, hK2 rA rB id sec pA pB, pA, true, true, 0⟩
variable {rA rB id sec pA pB}
theorem new_cl : newM false rA id sec pA = cl0 rA id sec pA := rfl
theorem hP_len (hr : rA.length = 32) (hi : id.length ≤ 64) (hp : pA.length ≤ 512) : 34 ≤ (hP rA id pA).length ∧ (hP rA id pA).length ≤ 614 := by
  unfold hP
  rw [List.length_append, List.length_append, textS_len, textS_len]
  have := vsz_bd id.length
  have := vsz_bd pA.length
  omega
theorem hB_len : (hB rA id sec pA).length = (hP rA id pA).length + 32 := by unfold hB; rw [List.length_append, binF_len]
theorem bin_arg (x : List UInt8) (hx : x.length = 32) : (gmsg 1 (hP rA id pA ++ x)).take ((gmsg 1 (hP rA id pA ++ x)).length - 32) = (gmsg 1 (hP rA id pA ++ z32)).take ((gmsg 1 (hP rA id pA ++ z32)).length - 32) := by
  have h : ∀ y : List UInt8, y.length = 32 → (gmsg 1 (hP rA id pA ++ y)).take ((gmsg 1 (hP rA id pA ++ y)).length - 32) = [UInt8.ofNat 1, UInt8.ofNat (((hP rA id pA).length + 32) / 65536), UInt8.ofNat (((hP rA id pA).length + 32) / 256), UInt8.ofNat ((hP rA id pA).length + 32)] ++ hP rA id pA := by
    intro y hy
    rw [gmsg_len]
    unfold gmsg
    rw [List.length_append, hy, ← List.append_assoc]
    rw [List.take_append_of_le_length (by simp; omega), List.take_of_length_le (by simp; omega)]
  rw [h x hx, h z32 z32_len]
/-- a server hears a client's first word, of any secret and any name -/
theorem sv_hears (hrA : rA.length = 32) (hi : id.length ≤ 64) (hpA : pA.length ≤ 512) (idB secB : List UInt8) :
    hearM 0 (hH rA id sec pA) (newM true rB idB secB pB) = if id ≠ idB then { newM true rB idB secB pB with nx := [(20, 1)], wrong := 371 } else
      if binF sec ((gmsg 1 (hP rA id pA ++ z32)).take ((gmsg 1 (hP rA id pA ++ z32)).length - 32)) ≠ binF secB ((gmsg 1 (hP rA id pA ++ z32)).take ((gmsg 1 (hP rA id pA ++ z32)).length - 32)) then { newM true rB idB secB pB with nx := [(20, 1)], wrong := 307 } else
      { helR ({ newM true rB idB secB pB with nx := [(20, 1)] }) (hH rA id sec pA) pA with wrong := 0 } := by
  have hl := hP_len hrA hi hpA
  have hbl := hB_len (rA := rA) (id := id) (sec := sec) (pA := pA)
  have hne : ¬ ((newM true rB idB secB pB).wrong ≠ 0 ∨ hH rA id sec pA = []) := by
    intro h; rcases h with h | h
    · exact h rfl
    · have := congrArg List.length h; unfold hH at this; rw [gmsg_len] at this; simp at this
  have hrd := hearM_RD 0 (by decide) (hH rA id sec pA) (newM true rB idB secB pB)
  rw [if_neg hne] at hrd
  rw [show ((0 : Nat) : Int) = 0 from rfl] at hrd
  rw [hrd, show addI 0 (newM true rB idB secB pB) (hH rA id sec pA) = { newM true rB idB secB pB with i0 := gmsg 1 (hB rA id sec pA) ++ [] } by simp [addI, newM, baseM, hH]]
  rw [RD_0 1 (by decide) (hB rA id sec pA) [] (by omega) (newM true rB idB secB pB) rfl [(20, 1)] rfl]
  have hB0 : hB rA id sec pA = rA ++ (textS id ++ (textS pA ++ binF sec ((gmsg 1 (hP rA id pA ++ z32)).take ((gmsg 1 (hP rA id pA ++ z32)).length - 32)))) := by unfold hB hP; simp
  have hb := bin_arg (rA := rA) (id := id) (pA := pA) (binF sec ((gmsg 1 (hP rA id pA ++ z32)).take ((gmsg 1 (hP rA id pA ++ z32)).length - 32))) (binF_len _ _)
  have hb' : binF secB ((gmsg 1 (hB rA id sec pA)).take ((gmsg 1 (hB rA id sec pA)).length - 32)) = binF secB ((gmsg 1 (hP rA id pA ++ z32)).take ((gmsg 1 (hP rA id pA ++ z32)).length - 32)) := by
    rw [← hb]; rfl
  have htk : ∀ X : MS, X.id = idB → X.sec = secB → takeM X 1 (gmsg 1 (hB rA id sec pA)) (hB rA id sec pA) = if id ≠ idB then (X, 371) else if binF sec ((gmsg 1 (hP rA id pA ++ z32)).take ((gmsg 1 (hP rA id pA ++ z32)).length - 32)) ≠ binF secB ((gmsg 1 (hP rA id pA ++ z32)).take ((gmsg 1 (hP rA id pA ++ z32)).length - 32)) then (X, 307) else (helR X (hH rA id sec pA) pA, 0) := by
    intro X hX1 hX2
    unfold takeM
    rw [if_pos rfl]
    unfold helS
    rw [if_neg (by omega)]
    rw [show (hB rA id sec pA).drop 32 = textS id ++ (textS pA ++ binF sec ((gmsg 1 (hP rA id pA ++ z32)).take ((gmsg 1 (hP rA id pA ++ z32)).length - 32))) by rw [hB0, ← hrA, List.drop_left]]
    rw [ttS_text id _ 64 hi (by omega)]
    dsimp only
    unfold helU
    rw [ttS_text pA _ 512 hpA (by omega)]
    dsimp only
    unfold helT
    rw [if_neg (by rw [binF_len]; decide), hX1, hX2, hb']
    rfl
  rw [htk _ rfl rfl]
  by_cases c1 : id ≠ idB
  · rw [if_pos (by exact c1), if_pos c1, RD_wrong 0 _ (by show (371 : Nat) ≠ 0; decide)]
    rfl
  · rw [if_neg (by exact c1), if_neg c1]
    by_cases c2 : binF sec ((gmsg 1 (hP rA id pA ++ z32)).take ((gmsg 1 (hP rA id pA ++ z32)).length - 32)) ≠ binF secB ((gmsg 1 (hP rA id pA ++ z32)).take ((gmsg 1 (hP rA id pA ++ z32)).length - 32))
    · rw [if_pos (by exact c2), if_pos c2, RD_wrong 0 _ (by show (307 : Nat) ≠ 0; decide)]
      rfl
    · rw [if_neg (by exact c2), if_neg c2, RD_nil 0 _ rfl]
      rfl
theorem sv_1 (hrA : rA.length = 32) (hi : id.length ≤ 64) (hpA : pA.length ≤ 512) : hearM 0 (hH rA id sec pA) (newM true rB id sec pB) = sv1 rA rB id sec pA pB := by
  rw [sv_hears hrA hi hpA, if_neg (by simp), if_neg (by simp)]
  rfl
theorem cl_1 (hrB : rB.length = 32) : hearM 0 (gmsg 2 rB) (cl1 rA id sec pA) = cl2 rA rB id sec pA := by
  have hrd := hearM_RD 0 (by decide) (gmsg 2 rB) (cl1 rA id sec pA)
  rw [if_neg (by simp [gmsg, cl1]), show ((0 : Nat) : Int) = 0 from rfl] at hrd
  rw [hrd, show addI 0 (cl1 rA id sec pA) (gmsg 2 rB) = { cl1 rA id sec pA with i0 := gmsg 2 rB ++ [] } by simp [addI, cl1]]
  rw [RD_0 2 (by decide) rB [] (by omega) (cl1 rA id sec pA) rfl [(8, 1), (20, 1)] rfl]
  rw [show takeM ({ cl1 rA id sec pA with i0 := [], nx := [(8, 1), (20, 1)] } : MS) 2 (gmsg 2 rB) rB = (agreeS { ({ cl1 rA id sec pA with i0 := [], nx := [(8, 1), (20, 1)] } : MS) with said := hH rA id sec pA ++ gmsg 2 rB }, 0) by
    unfold takeM; rw [if_neg (by decide), if_pos rfl, if_neg (by simp [hrB])]; rfl]
  rw [RD_nil 0 _ rfl]
  rfl
theorem cl_2 (hpB : pB.length ≤ 512) : hearM 1 (gmsg 8 (textS pB) ++ gmsg 20 (hF1 rA rB id sec pA pB)) (cl2 rA rB id sec pA) = cl3 rA rB id sec pA pB := by
  have hrd := hearM_RD 1 (by decide) (gmsg 8 (textS pB) ++ gmsg 20 (hF1 rA rB id sec pA pB)) (cl2 rA rB id sec pA)
  rw [if_neg (by simp [gmsg, cl2]), show ((1 : Nat) : Int) = 1 from rfl] at hrd
  have hv := vsz_bd pB.length
  have ht := textS_len pB
  rw [hrd, show addI 1 (cl2 rA rB id sec pA) (gmsg 8 (textS pB) ++ gmsg 20 (hF1 rA rB id sec pA pB)) = { cl2 rA rB id sec pA with i1 := gmsg 8 (textS pB) ++ gmsg 20 (hF1 rA rB id sec pA pB) } by simp [addI, cl2]]
  rw [RD_1 8 (by decide) (textS pB) _ (by omega) (cl2 rA rB id sec pA) rfl [(20, 1)] rfl]
  have h8 : ∀ X : MS, takeM X 8 (gmsg 8 (textS pB)) (textS pB) = ({ X with peer := pB, came := true, said := X.said ++ gmsg 8 (textS pB) }, 0) := by
    intro X
    unfold takeM
    rw [if_neg (by decide), if_neg (by decide), if_pos rfl]
    unfold termS
    have := ttS_text pB [] 512 hpB (by omega)
    rw [List.append_nil] at this
    rw [this]
    dsimp only
    rw [if_neg (by simp)]
  rw [h8]
  have hf1 : (hF1 rA rB id sec pA pB).length = 32 := fmF_len _ _
  obtain ⟨X, hX⟩ : ∃ X : MS, (⟨false, rA, id, sec, pA, hA2 rA rB id sec pA pB, [], [], [], [], [(20, 1)], hh sec, zp, hK1 rA rB id sec pA, zp, pB, true, false, 0⟩ : MS) = X := ⟨_, rfl⟩
  rw [show fin0 (({ ({ cl2 rA rB id sec pA with i1 := gmsg 20 (hF1 rA rB id sec pA pB), nx := [(20, 1)] } : MS) with peer := pB, came := true, said := ({ cl2 rA rB id sec pA with i1 := gmsg 20 (hF1 rA rB id sec pA pB), nx := [(20, 1)] } : MS).said ++ gmsg 8 (textS pB) }, 0) : MS × Nat) = { X with i1 := gmsg 20 (hF1 rA rB id sec pA pB) ++ [] } by rw [← hX, List.append_nil]; rfl]
  rw [RD_1 20 (by decide) (hF1 rA rB id sec pA pB) [] (by omega) X (by rw [← hX]) [] (by rw [← hX])]
  have h20 : takeM ({ X with i1 := [], nx := [] } : MS) 20 (gmsg 20 (hF1 rA rB id sec pA pB)) (hF1 rA rB id sec pA pB) = (cl3 rA rB id sec pA pB, 0) := by
    unfold takeM
    rw [if_neg (by decide), if_neg (by decide), if_neg (by decide)]
    unfold finS
    rw [if_neg (by simp [hf1]), ← hX, if_neg (by simp [hF1])]
    rfl
  rw [h20, RD_nil 1 _ rfl]
  rfl
theorem sv_2 : hearM 1 (gmsg 20 (hF2 rA rB id sec pA pB)) (sv2 rA rB id sec pA pB) = sv3 rA rB id sec pA pB := by
  have hrd := hearM_RD 1 (by decide) (gmsg 20 (hF2 rA rB id sec pA pB)) (sv2 rA rB id sec pA pB)
  rw [if_neg (by simp [gmsg, sv2]), show ((1 : Nat) : Int) = 1 from rfl] at hrd
  have hf2 : (hF2 rA rB id sec pA pB).length = 32 := fmF_len _ _
  rw [hrd, show addI 1 (sv2 rA rB id sec pA pB) (gmsg 20 (hF2 rA rB id sec pA pB)) = { sv2 rA rB id sec pA pB with i1 := gmsg 20 (hF2 rA rB id sec pA pB) ++ [] } by simp [addI, sv2]]
  rw [RD_1 20 (by decide) (hF2 rA rB id sec pA pB) [] (by omega) (sv2 rA rB id sec pA pB) rfl [] rfl]
  have h20 : takeM ({ sv2 rA rB id sec pA pB with i1 := [], nx := [] } : MS) 20 (gmsg 20 (hF2 rA rB id sec pA pB)) (hF2 rA rB id sec pA pB) = (sv3 rA rB id sec pA pB, 0) := by
    unfold takeM
    rw [if_neg (by decide), if_neg (by decide), if_neg (by decide)]
    unfold finS
    rw [if_neg (by simp [hf2]), if_neg (by simp [hF2, sv2])]
    rfl
  rw [h20, RD_nil 1 _ rfl]
  rfl
theorem out_cl0 : outM (cl0 rA id sec pA) = (cl1 rA id sec pA, [(0, hH rA id sec pA)]) := by
  simp [outM, out0, out1, cl0, cl1, hH, gmsg]
theorem out_cl3 : outM (cl3 rA rB id sec pA pB) = (cl4 rA rB id sec pA pB, [(1, gmsg 20 (hF2 rA rB id sec pA pB))]) := by
  simp [outM, out0, out1, cl3, cl4, gmsg]
theorem out_sv1 : outM (sv1 rA rB id sec pA pB) = (sv2 rA rB id sec pA pB, [(0, gmsg 2 rB), (1, gmsg 8 (textS pB) ++ gmsg 20 (hF1 rA rB id sec pA pB))]) := by
  simp [outM, out0, out1, sv1, sv2, gmsg]
end
end Go.Proofs.YtkhcpnmbhbhcgaaDoor

/- Greet: all that two say to one another (plain), and how far it grows. -/
set_option maxRecDepth 100000
set_option linter.unusedVariables false
namespace Go.Proofs.YtkhcpnmbhbhcgaaDoor
open Go.RowKit Go.Joins
/-- how far a side has grown -/
structure Bn (S : MS) (C D : Nat) : Prop where
  said : S.said.length + S.nx.length * 1000000000 ≤ C
  o0 : S.o0.length + S.nx.length * 1000000000 ≤ C
  o1 : S.o1.length + S.nx.length * 1000000000 ≤ C
  i0 : S.i0.length ≤ D
  i1 : S.i1.length ≤ D
  rnd : S.rnd.length = 32
  par : S.par.length ≤ 600
  sec : S.sec.length ≤ 1000000
theorem Bn.mono {S : MS} {C D D' : Nat} (h : Bn S C D) (hd : D ≤ D') : Bn S C D' := ⟨h.said, h.o0, h.o1, Nat.le_trans h.i0 hd, Nat.le_trans h.i1 hd, h.rnd, h.par, h.sec⟩
theorem len2_le (b : List UInt8) : len2 b ≤ 65539 := by
  unfold len2
  have h1 := (b.getD 2 0).toNat_lt
  have h2 := (b.getD 3 0).toNat_lt
  omega
theorem cutI_len (lv n : Nat) (S : MS) : (cutI lv n S).i0.length ≤ S.i0.length ∧ (cutI lv n S).i1.length ≤ S.i1.length := by
  unfold cutI
  constructor
  · dsimp only; split
    · rw [List.length_drop]; omega
    · omega
  · dsimp only; split
    · omega
    · rw [List.length_drop]; omega
theorem Bn.one {S : MS} {C D lv : Nat} (h : Bn S C D) {x : Nat × Nat} {nx : List (Nat × Nat)} (hn : S.nx = x :: nx) : Bn (oneM lv x nx S) C D := by
  have hb := len2_le (inS lv S)
  obtain ⟨n, hn2⟩ : ∃ n, len2 (inS lv S) = n := ⟨_, rfl⟩
  have hc := cutI_len lv n ({ S with nx := nx } : MS)
  obtain ⟨T, hT⟩ : ∃ T, cutI lv n ({ S with nx := nx } : MS) = T := ⟨_, rfl⟩
  have t1 : T.said = S.said := by rw [← hT]; rfl
  have t2 : T.o0 = S.o0 := by rw [← hT]; rfl
  have t3 : T.o1 = S.o1 := by rw [← hT]; rfl
  have t4 : T.nx = nx := by rw [← hT]; rfl
  have t5 : T.rnd = S.rnd := by rw [← hT]; rfl
  have t6 : T.par = S.par := by rw [← hT]; rfl
  have t7 : T.sec = S.sec := by rw [← hT]; rfl
  have hw : ((inS lv S).take n).length ≤ n := List.length_take_le _ _
  have g := Gr.take T (by rw [t5]; exact h.rnd) (by rw [t6]; exact h.par) ((inS lv S).getD 0 0).toNat ((inS lv S).take n) (((inS lv S).take n).drop 4)
  unfold oneM
  rw [hn2, hT]
  rw [hT] at hc
  have q1 := h.said
  have q2 := h.o0
  have q3 := h.o1
  rw [hn, List.length_cons] at q1 q2 q3
  have g1 := g.said
  have g2 := g.o0
  have g3 := g.o1
  rw [t1] at g1
  rw [t2] at g2
  rw [t3] at g3
  refine ⟨?_, ?_, ?_, ?_, ?_, ?_, ?_, ?_⟩
  · dsimp only; rw [g.nx, t4]; omega
  · dsimp only; rw [g.nx, t4]; omega
  · dsimp only; rw [g.nx, t4]; omega
  · dsimp only; rw [g.i0]; exact Nat.le_trans hc.1 h.i0
  · dsimp only; rw [g.i1]; exact Nat.le_trans hc.2 h.i1
  · dsimp only; rw [g.rnd, t5]; exact h.rnd
  · dsimp only; rw [g.par, t6]; exact h.par
  · dsimp only; rw [g.sec, t7]; exact h.sec
theorem Bn.wr {S : MS} {C D : Nat} (h : Bn S C D) (x : Nat) : Bn ({ S with wrong := x } : MS) C D := ⟨h.said, h.o0, h.o1, h.i0, h.i1, h.rnd, h.par, h.sec⟩
theorem Bn.rd {C D lv : Nat} : ∀ (n : Nat) (S : MS), S.nx.length = n → Bn S C D → Bn (RD lv S) C D := by
  intro n
  induction n with
  | zero =>
    intro S hn h
    rw [RD_eq]
    split
    · exact h
    · split
      · exact h.wr 306
      · have hx := List.eq_nil_of_length_eq_zero hn
        have h2 := h.wr 266
        rw [hx] at h2 ⊢
        exact h2
  | succ n ih =>
    intro S hn h
    rw [RD_eq]
    split
    · exact h
    · split
      · exact h.wr 306
      · cases hx : S.nx with
        | nil =>
          have h2 := h.wr 266
          rw [hx] at h2
          exact h2
        | cons x nx =>
          dsimp only
          split
          · have h2 := h.wr 266
            rw [hx] at h2
            exact h2
          · split
            · exact h
            · split
              · exact h
              · refine ih _ ?_ (h.one hx)
                rw [oneM_nx]
                rw [hx, List.length_cons] at hn
                omega
theorem Bn.add {S : MS} {C D lv : Nat} (h : Bn S C D) (p : List UInt8) : Bn (addI lv S p) C (D + p.length) := by
  refine ⟨h.said, h.o0, h.o1, ?_, ?_, h.rnd, h.par, h.sec⟩
  · have := h.i0
    unfold addI; dsimp only; split
    · rw [List.length_append]; omega
    · omega
  · have := h.i1
    unfold addI; dsimp only; split
    · omega
    · rw [List.length_append]; omega
theorem Bn.hear {S : MS} {C D : Nat} (h : Bn S C D) (lv : Int) (p : List UInt8) : Bn (hearM lv p S) C (D + p.length) := by
  unfold hearM
  split
  · exact h.mono (by omega)
  · split
    · exact Bn.rd _ _ rfl (h.add (lv := 0) p)
    · split
      · exact Bn.rd _ _ rfl (h.add (lv := 1) p)
      · exact (h.wr _).mono (by omega)
theorem Bn.out0 {S : MS} {C D : Nat} (h : Bn S C D) : Bn (out0 S).1 C D := by
  unfold Go.Proofs.YtkhcpnmbhbhcgaaDoor.out0
  split
  · exact h
  · exact ⟨h.said, by have := h.said; simp; omega, h.o1, h.i0, h.i1, h.rnd, h.par, h.sec⟩
theorem Bn.out1 {S : MS} {C D : Nat} (h : Bn S C D) : Bn (out1 S).1 C D := by
  unfold Go.Proofs.YtkhcpnmbhbhcgaaDoor.out1
  split
  · exact h
  · exact ⟨h.said, h.o0, by have := h.said; simp; omega, h.i0, h.i1, h.rnd, h.par, h.sec⟩
theorem Bn.out {S : MS} {C D : Nat} (h : Bn S C D) : Bn (outM S).1 C D := h.out0.out1
/-- the bytes of pieces -/
def pcs : List (Nat × List UInt8) → Nat
  | [] => 0
  | x :: ps => x.2.length + pcs ps
theorem pcs_app : ∀ (a b : List (Nat × List UInt8)), pcs (a ++ b) = pcs a + pcs b
  | [], b => by simp [pcs]
  | x :: a, b => by rw [List.cons_append, pcs, pcs, pcs_app a b]; omega
theorem out0_pcs {S : MS} {C D : Nat} (h : Bn S C D) : pcs (Go.Proofs.YtkhcpnmbhbhcgaaDoor.out0 S).2 ≤ C ∧ (Go.Proofs.YtkhcpnmbhbhcgaaDoor.out0 S).1.o1 = S.o1 := by
  have := h.o0
  unfold Go.Proofs.YtkhcpnmbhbhcgaaDoor.out0
  split
  · exact ⟨by simp [pcs], rfl⟩
  · exact ⟨by simp [pcs]; omega, rfl⟩
theorem out1_pcs {S : MS} {C D : Nat} (h : Bn S C D) : pcs (Go.Proofs.YtkhcpnmbhbhcgaaDoor.out1 S).2 ≤ C := by
  have := h.o1
  unfold Go.Proofs.YtkhcpnmbhbhcgaaDoor.out1
  split
  · simp [pcs]
  · simp [pcs]; omega
theorem outM_pcs {S : MS} {C D : Nat} (h : Bn S C D) : pcs (outM S).2 ≤ 2 * C := by
  unfold outM
  rw [pcs_app]
  have h1 := (out0_pcs h).1
  have h2 := out1_pcs h.out0
  omega
theorem outM_lv (S : MS) : ∀ x ∈ (outM S).2, x.1 < 2 ∧ x.2 ≠ [] := by
  intro x hx
  unfold outM Go.Proofs.YtkhcpnmbhbhcgaaDoor.out0 Go.Proofs.YtkhcpnmbhbhcgaaDoor.out1 at hx
  split at hx
  · split at hx
    · simp at hx
    · next h => simp at hx; rw [hx]; exact ⟨by show (1 : Nat) < 2; decide, h⟩
  · next h0 =>
    split at hx
    · simp at hx; rw [hx]; exact ⟨by show (0 : Nat) < 2; decide, h0⟩
    · next h =>
      simp at hx
      rcases hx with hx | hx
      · rw [hx]; exact ⟨by show (0 : Nat) < 2; decide, h0⟩
      · rw [hx]; exact ⟨by show (1 : Nat) < 2; decide, h⟩
/-- a piece, in parts -/
noncomputable def feedM (part lv : Nat) : Nat → List UInt8 → MS → MS × Nat
  | 0, _, S => (S, 0)
  | f + 1, p, S => if p = [] then (S, 0) else
    if (hearM lv (p.take part) S).wrong ≠ 0 then (hearM lv (p.take part) S, (hearM lv (p.take part) S).wrong) else feedM part lv f (p.drop part) (hearM lv (p.take part) S)
theorem feedM_fuel (part lv : Nat) (hp : 0 < part) : ∀ (f f' : Nat) (p : List UInt8) (S : MS), p.length ≤ f → p.length ≤ f' → feedM part lv f p S = feedM part lv f' p S
  | 0, 0, p, S, _, _ => rfl
  | 0, f' + 1, p, S, h, _ => by
    have : p = [] := List.eq_nil_of_length_eq_zero (by omega)
    subst this; rw [feedM, feedM, if_pos rfl]
  | f + 1, 0, p, S, _, h => by
    have : p = [] := List.eq_nil_of_length_eq_zero (by omega)
    subst this; rw [feedM, feedM, if_pos rfl]
  | f + 1, f' + 1, p, S, h, h' => by
    rw [feedM, feedM]
    by_cases hn : p = []
    · rw [if_pos hn, if_pos hn]
    · rw [if_neg hn, if_neg hn]
      have := List.length_pos_iff.2 hn
      rw [feedM_fuel part lv hp f f' _ _ (by rw [List.length_drop]; omega) (by rw [List.length_drop]; omega)]
/-- pieces, one behind the other -/
noncomputable def feedL (part : Nat) : List (Nat × List UInt8) → MS → MS × Nat
  | [], S => (S, 0)
  | x :: ps, S => if (feedM part x.1 x.2.length x.2 S).2 ≠ 0 then feedM part x.1 x.2.length x.2 S else feedL part ps (feedM part x.1 x.2.length x.2 S).1
/-- all, so many times -/
noncomputable def meetM (part : Nat) : Nat → MS → MS → MS × MS × Nat
  | 0, a, b => (a, b, 0)
  | n + 1, a, b => if (feedL part (outM a).2 b).2 ≠ 0 then ((outM a).1, (feedL part (outM a).2 b).1, (feedL part (outM a).2 b).2) else meetM part n (feedL part (outM a).2 b).1 (outM a).1
/-- parts of what is heard well -/
theorem feedM_ok (part lv : Nat) (hlv : lv < 2) (hp : 0 < part) : ∀ (f : Nat) (p : List UInt8) (S : MS), p.length ≤ f → S.wrong = 0 → (hearM lv p S).wrong = 0 → feedM part lv f p S = (hearM lv p S, 0)
  | 0, p, S, h, hs, hw => by
    have : p = [] := List.eq_nil_of_length_eq_zero (by omega)
    subst this
    rw [feedM, hearM_RD lv hlv, if_pos (.inr rfl)]
  | f + 1, p, S, h, hs, hw => by
    rw [feedM]
    by_cases hn : p = []
    · subst hn
      rw [if_pos rfl, hearM_RD lv hlv, if_pos (.inr rfl)]
    · rw [if_neg hn]
      have hpos := List.length_pos_iff.2 hn
      have hpq : p = p.take part ++ p.drop part := (List.take_append_drop part p).symm
      have hA := hearM_app lv hlv (p.take part) (p.drop part) S (by rw [← hpq]; exact hw)
      rw [← hpq] at hA
      have h1 : (hearM lv (p.take part) S).wrong = 0 := by
        refine Classical.byContradiction fun hx => ?_
        rw [hearM_RD lv hlv (p.drop part), if_pos (.inl hx)] at hA
        rw [← hA] at hw
        exact hx hw
      rw [if_neg (by simp [h1]), feedM_ok part lv hlv hp f _ _ (by rw [List.length_drop]; omega) h1 (by rw [hA]; exact hw), hA]
section
variable {rA rB id sec pA pB : List UInt8}
theorem meet_feed1 (part : Nat) (hp : 0 < part) (hrA : rA.length = 32) (hi : id.length ≤ 64) (hpA : pA.length ≤ 512) : feedL part [(0, hH rA id sec pA)] (newM true rB id sec pB) = (sv1 rA rB id sec pA pB, 0) := by
  have h := feedM_ok part 0 (by decide) hp _ (hH rA id sec pA) (newM true rB id sec pB) (Nat.le_refl _) rfl (by rw [show ((0 : Nat) : Int) = 0 from rfl, sv_1 hrA hi hpA]; rfl)
  rw [show ((0 : Nat) : Int) = 0 from rfl, sv_1 hrA hi hpA] at h
  simp [feedL, h]
theorem meet_feed2 (part : Nat) (hp : 0 < part) (hrB : rB.length = 32) (hpB : pB.length ≤ 512) : feedL part [(0, gmsg 2 rB), (1, gmsg 8 (textS pB) ++ gmsg 20 (hF1 rA rB id sec pA pB))] (cl1 rA id sec pA) = (cl3 rA rB id sec pA pB, 0) := by
  have h := feedM_ok part 0 (by decide) hp _ (gmsg 2 rB) (cl1 rA id sec pA) (Nat.le_refl _) rfl (by rw [show ((0 : Nat) : Int) = 0 from rfl, cl_1 hrB]; rfl)
  rw [show ((0 : Nat) : Int) = 0 from rfl, cl_1 hrB] at h
  have h2 := feedM_ok part 1 (by decide) hp _ (gmsg 8 (textS pB) ++ gmsg 20 (hF1 rA rB id sec pA pB)) (cl2 rA rB id sec pA) (Nat.le_refl _) rfl (by rw [show ((1 : Nat) : Int) = 1 from rfl, cl_2 hpB]; rfl)
  rw [show ((1 : Nat) : Int) = 1 from rfl, cl_2 hpB] at h2
  simp only [feedL, h, h2]
  simp
theorem meet_feed3 (part : Nat) (hp : 0 < part) : feedL part [(1, gmsg 20 (hF2 rA rB id sec pA pB))] (sv2 rA rB id sec pA pB) = (sv3 rA rB id sec pA pB, 0) := by
  have h := feedM_ok part 1 (by decide) hp _ (gmsg 20 (hF2 rA rB id sec pA pB)) (sv2 rA rB id sec pA pB) (Nat.le_refl _) rfl (by rw [show ((1 : Nat) : Int) = 1 from rfl, sv_2]; rfl)
  rw [show ((1 : Nat) : Int) = 1 from rfl, sv_2] at h
  simp [feedL, h]
theorem meet_all (part : Nat) (hp : 0 < part) (hrA : rA.length = 32) (hrB : rB.length = 32) (hi : id.length ≤ 64) (hpA : pA.length ≤ 512) (hpB : pB.length ≤ 512) :
    meetM part 6 (newM false rA id sec pA) (newM true rB id sec pB) = (cl4 rA rB id sec pA pB, sv3 rA rB id sec pA pB, 0) := by
  have o1 : outM (sv3 rA rB id sec pA pB) = (sv3 rA rB id sec pA pB, []) := by simp [outM, out0, out1, sv3]
  have o2 : outM (cl4 rA rB id sec pA pB) = (cl4 rA rB id sec pA pB, []) := by simp [outM, out0, out1, cl4]
  rw [new_cl]
  simp only [meetM, out_cl0, meet_feed1 part hp hrA hi hpA, out_sv1, meet_feed2 part hp hrB hpB, out_cl3, meet_feed3 part hp, o1, o2, feedL]
  simp
theorem new_bn (server : Bool) (hr : rA.length = 32) (hi : id.length ≤ 64) (hp : pA.length ≤ 512) (hs : sec.length ≤ 1000000) : Bn (newM server rA id sec pA) 4000000000 0 := by
  have hl : (hH rA id sec pA).length ≤ 1000 := by
    have := hP_len (id := id) hr hi hp
    unfold hH
    rw [gmsg_len, hB_len]; omega
  cases server with
  | true => exact ⟨by show 0 + 2 * 1000000000 ≤ _; omega, by show 0 + 2 * 1000000000 ≤ _; omega, by show 0 + 2 * 1000000000 ≤ _; omega, by show 0 ≤ 0; omega, by show 0 ≤ 0; omega, hr, by show pA.length ≤ 600; omega, hs⟩
  | false =>
    rw [new_cl]
    refine ⟨?_, ?_, ?_, ?_, ?_, hr, by show pA.length ≤ 600; omega, hs⟩
    · show (hH rA id sec pA).length + 3 * 1000000000 ≤ _; omega
    · show (hH rA id sec pA).length + 3 * 1000000000 ≤ _; omega
    · show 0 + 3 * 1000000000 ≤ _; omega
    · show 0 ≤ 0; omega
    · show 0 ≤ 0; omega
end
end Go.Proofs.YtkhcpnmbhbhcgaaDoor

/- Greet: two machines side by side. -/
set_option maxRecDepth 100000
set_option linter.unusedVariables false
namespace Go.Proofs.YtkhcpnmbhbhcgaaDoor
open Go.RowKit Go.Joins
structure TM (w : World) (r1 r2 : Nat → Nat) (g1 g2 : Nat) (S1 S2 : MS) (A1 A2 : MA) : Prop where
  a : GM w r1 g1 S1 A1
  b : GM w r2 g2 S2 A2
  dis : ∀ k, r1 k = 0 ∨ r2 k = 0
  z1 : r1 3 = 0
  z2 : r2 3 = 0
  kt : KT w
/-- what is neither's stays -/
structure Kp2 (w w' : World) (r1 r2 r1' r2' : Nat → Nat) : Prop where
  os : w'.os = w.os
  tape : w'.tape = w.tape
  output : w'.output = w.output
  size : w.heap.size ≤ w'.heap.size
  blk : ∀ k, k < w.heap.size → r1 k = 0 → r2 k = 0 → w'.heap[k]? = w.heap[k]? ∧ r1' k = 0 ∧ r2' k = 0
theorem Kp2.refl (w : World) (r1 r2 : Nat → Nat) : Kp2 w w r1 r2 r1 r2 := ⟨rfl, rfl, rfl, Nat.le_refl _, fun k _ h1 h2 => ⟨rfl, h1, h2⟩⟩
theorem Kp2.trans {w w1 w2 : World} {a b a1 b1 a2 b2 : Nat → Nat} (h : Kp2 w w1 a b a1 b1) (k : Kp2 w1 w2 a1 b1 a2 b2) : Kp2 w w2 a b a2 b2 :=
  ⟨k.os.trans h.os, k.tape.trans h.tape, k.output.trans h.output, Nat.le_trans h.size k.size, fun j hj ha hb => by
    obtain ⟨h1, h2, h3⟩ := h.blk j hj ha hb
    obtain ⟨h4, h5, h6⟩ := k.blk j (Nat.lt_of_lt_of_le hj h.size) h2 h3
    exact ⟨h4.trans h1, h5, h6⟩⟩
theorem Kp2.swap {w w1 : World} {a b a1 b1 : Nat → Nat} (h : Kp2 w w1 a b a1 b1) : Kp2 w w1 a b b1 a1 :=
  ⟨h.os, h.tape, h.output, h.size, fun j hj ha hb => by obtain ⟨h1, h2, h3⟩ := h.blk j hj ha hb; exact ⟨h1, h3, h2⟩⟩
theorem Kp2.swapl {w w1 : World} {a b a1 b1 : Nat → Nat} (h : Kp2 w w1 a b a1 b1) : Kp2 w w1 b a a1 b1 :=
  ⟨h.os, h.tape, h.output, h.size, fun j hj ha hb => h.blk j hj hb ha⟩
/-- nothing of a caller's turns whose roles are nobody's -/
theorem Kp2.below {w0 w w1 : World} {a b a1 b1 : Nat → Nat} (h : Kp2 w w1 a b a1 b1) {N : Nat} (h0 : Below N w0 w) (hN : N ≤ w.heap.size) (za : ∀ k, k < N → a k = 0) (zb : ∀ k, k < N → b k = 0) : Below N w0 w1 :=
  ⟨h.os.trans h0.os, h.tape.trans h0.tape, h.output.trans h0.output, Nat.le_trans h0.size h.size, fun k hk => by
    obtain ⟨h1, h2, h3⟩ := h.blk k (Nat.lt_of_lt_of_le hk hN) (za k hk) (zb k hk)
    exact h1.trans (h0.block k hk)⟩
section
variable {w w' : World} {r1 r2 r1' r2' : Nat → Nat} {g1 g2 : Nat} {S1 S2 S1' S2' : MS} {A1 A2 A1' A2' : MA}
theorem TM.swap (h : TM w r1 r2 g1 g2 S1 S2 A1 A2) : TM w r2 r1 g2 g1 S2 S1 A2 A1 := ⟨h.b, h.a, fun k => (h.dis k).symm, h.z2, h.z1, h.kt⟩
theorem TM.step1 (h : TM w r1 r2 g1 g2 S1 S2 A1 A2) (hm : GM w' r1' g1 S1' A1') (hk : Kpt w w' r1 r1') : TM w' r1' r2 g1 g2 S1' S2 A1' A2 ∧ Kp2 w w' r1 r2 r1' r2 := by
  have ho : ∀ k, r2 k ≠ 0 → r1 k = 0 := fun k hk2 => (h.dis k).resolve_right hk2
  have hlt : ∀ k, r2 k ≠ 0 → k < w.heap.size := fun k hk2 => Nat.lt_of_not_le fun hle => hk2 (h.b.gp.top k hle)
  refine ⟨⟨hm, h.b.kept hk.size (fun k hl hk2 => (hk.blk k hl (ho k hk2)).1), fun k => ?_, (hk.blk _ h.kt.lt h.z1).2, h.z2, h.kt.kpt hk h.z1⟩, ⟨hk.os, hk.tape, hk.output, hk.size, fun k hl ha hb => ⟨(hk.blk k hl ha).1, (hk.blk k hl ha).2, hb⟩⟩⟩
  by_cases h2 : r2 k = 0
  · exact .inr h2
  · exact .inl (hk.blk k (hlt k h2) (ho k h2)).2
theorem TM.step2 (h : TM w r1 r2 g1 g2 S1 S2 A1 A2) (hm : GM w' r2' g2 S2' A2') (hk : Kpt w w' r2 r2') : TM w' r1 r2' g1 g2 S1 S2' A1 A2' ∧ Kp2 w w' r1 r2 r1 r2' := by
  obtain ⟨h1, h2⟩ := h.swap.step1 hm hk
  exact ⟨h1.swap, h2.swap.swapl⟩
theorem TM.bel (h : TM w r1 r2 g1 g2 S1 S2 A1 A2) (hb : Below w.heap.size w w') : TM w' r1 r2 g1 g2 S1 S2 A1 A2 ∧ Kp2 w w' r1 r2 r1 r2 :=
  h.step1 (h.a.below hb) (Below.kpt hb h.a.gp.top)
/-- a cell of a block that is nobody's here is set -/
theorem TM.cell (h : TM w r1 r2 g1 g2 S1 S2 A1 A2) {q : Nat} (hq1 : r1 q = 0) (hq2 : r2 q = 0) (hne : q ≠ 3) (i : Nat) (v : Value) : TM (w.setCell ⟨q, i, none⟩ v) r1 r2 g1 g2 S1 S2 A1 A2 := by
  have hg := grownBy_setCell w ⟨q, i, none⟩ v
  have hs : (w.setCell ⟨q, i, none⟩ v).heap.size = w.heap.size := by simp [World.setCell]
  have hb : ∀ {r : Nat → Nat}, r q = 0 → ∀ k, k < w.heap.size → r k ≠ 0 → (w.setCell ⟨q, i, none⟩ v).heap[k]? = w.heap[k]? := fun hr k hl hk => hg.block k hl (fun he => by injection he with he; rw [he] at hk; exact hk hr)
  have hKr : KT (w.setCell ⟨q, i, none⟩ v) := fun j x hx => by
    rw [World.cell?_of_block (w := w) (a := ⟨3, j, none⟩) (hg.block _ h.kt.lt (fun he => by injection he with he; exact hne he.symm))]
    exact h.kt j x hx
  exact ⟨h.a.kept (by omega) (hb hq1), h.b.kept (by omega) (hb hq2), h.dis, h.z1, h.z2, hKr⟩
end
/-- what one of both says, the other one reads -/
theorem PcOf.to {w : World} {r1 r2 r0 : Nat → Nat} {b0 : Nat} (hd : ∀ k, r0 k = 0 ∨ r2 k = 0) : ∀ {ps : List (Nat × List UInt8)} {cs : List Value}, PcOf w r1 b0 r0 ps cs → PcOf w r2 b0 (fun _ => 1) ps cs
  | [], _, h => h
  | (l, b) :: ps, _, ⟨a, n, c, cs', he, hb, hr, hl, ht⟩ => ⟨a, n, c, cs', he, hb, fun ad ha => (hd ad.block).resolve_left (hl ad ha).2, fun ad ha => ⟨(hl ad ha).1, Nat.one_ne_zero⟩, PcOf.to hd ht⟩
end Go.Proofs.YtkhcpnmbhbhcgaaDoor

/- law13.meet: what its loops hold. -/
set_option maxRecDepth 100000
set_option linter.unusedVariables false
namespace Go.Proofs.YtkhcpnmbhbhcgaaDoor
open Go.RowKit Go.Joins
def MtR (w : World) (ra rb : Nat → Nat) (ga gb part : Nat) (R : MS × MS × Nat) (i g1 g2 : Nat) (wr : World) : Prop :=
  ∃ r1 r2 S1 S2 A1 A2, TM wr r1 r2 g1 g2 S1 S2 A1 A2 ∧ Kp2 w wr ra rb r1 r2 ∧ meetM part (6 - i) S1 S2 = R ∧ ((g1 = ga ∧ g2 = gb ∧ i % 2 = 0) ∨ (g1 = gb ∧ g2 = ga ∧ i % 2 = 1)) ∧ Bn S1 4000000000 (i * 8000000000) ∧ Bn S2 4000000000 (i * 8000000000)
/-- what holds while pieces are heard, but for the piece itself -/
structure PcS (w wj : World) (ra rb r1 r2 : Nat → Nat) (g1 g2 : Nat) (S1 S2 : MS) (A1 A2 : MA) (N0 : Nat) (pa : Option Addr) (pn pc : Nat) (cs : List Value) (ps' : List (Nat × List UInt8)) (cs' : List Value) : Prop where
  tm : TM wj r1 r2 g1 g2 S1 S2 A1 A2
  kp : Kp2 w wj ra rb r1 r2
  row : RS wj 2 pa pn pc cs
  rb : RB r2 0 pa
  rl : ∀ ad, pa = some ad → ad.block < wj.heap.size
  ps : PcOf wj r2 N0 (fun _ => 1) ps' cs'
  n0 : N0 ≤ wj.heap.size
  wN : w.heap.size ≤ N0
/-- and the piece -/
structure InS (w wj : World) (ra rb r1 r2 : Nat → Nat) (g1 g2 : Nat) (S1 S2 : MS) (A1 A2 : MA) (N0 : Nat) (pa : Option Addr) (pn pc : Nat) (cs : List Value) (ps' : List (Nat × List UInt8)) (cs' : List Value) (q l : Nat) (ad : Option Addr) (n c : Nat) (x : List UInt8) : Prop where
  p : PcS w wj ra rb r1 r2 g1 g2 S1 S2 A1 A2 N0 pa pn pc cs ps' cs'
  box : wj.heap[q]? = some (.cells #[.int .i64 (l : Int), .slice ad n c] 36 (0, 0))
  q1 : r1 q = 0
  q2 : r2 q = 0
  qn : N0 ≤ q
  qr : q ≠ 3
  qp : ∀ a, pa = some a → a.block ≠ q
  bs : BS wj ad n c x
  ar : RB r2 0 ad
  al : ∀ a, ad = some a → a.block < N0
section
variable {w wj w' : World} {ra rb r1 r2 r2' : Nat → Nat} {g1 g2 : Nat} {S1 S2 S2' : MS} {A1 A2 A2' : MA} {N0 : Nat} {pa : Option Addr} {pn pc : Nat} {cs : List Value} {ps' : List (Nat × List UInt8)} {cs' : List Value} {q l : Nat} {ad : Option Addr} {n c : Nat} {x : List UInt8}
theorem PcS.hear (h : PcS w wj ra rb r1 r2 g1 g2 S1 S2 A1 A2 N0 pa pn pc cs ps' cs') (hm : GM w' r2' g2 S2' A2') (hk : Kpt wj w' r2 r2') : PcS w w' ra rb r1 r2' g1 g2 S1 S2' A1 A2' N0 pa pn pc cs ps' cs' := by
  obtain ⟨t1, t2⟩ := h.tm.step2 hm hk
  exact ⟨t1, h.kp.trans t2, h.row.keepb (fun a ha hl => (hk.blk _ hl (h.rb a ha)).1), fun a ha => (hk.blk _ (h.rl a ha) (h.rb a ha)).2, fun a ha => Nat.lt_of_lt_of_le (h.rl a ha) hk.size, h.ps.kpt hk h.n0, Nat.le_trans h.n0 hk.size, h.wN⟩
theorem InS.lt (h : InS w wj ra rb r1 r2 g1 g2 S1 S2 A1 A2 N0 pa pn pc cs ps' cs' q l ad n c x) : q < wj.heap.size := (Array.getElem?_eq_some_iff.1 h.box).1
theorem InS.hear (h : InS w wj ra rb r1 r2 g1 g2 S1 S2 A1 A2 N0 pa pn pc cs ps' cs' q l ad n c x) (hm : GM w' r2' g2 S2' A2') (hk : Kpt wj w' r2 r2') : InS w w' ra rb r1 r2' g1 g2 S1 S2' A1 A2' N0 pa pn pc cs ps' cs' q l ad n c x := by
  have hl := h.lt
  exact ⟨h.p.hear hm hk, (hk.blk q hl h.q2).1.trans h.box, h.q1, (hk.blk q hl h.q2).2, h.qn, h.qr, h.qp, RS.keepb h.bs (fun a ha hl => (hk.blk _ hl (h.ar a ha)).1), fun a ha => (hk.blk _ (Nat.lt_of_lt_of_le (h.al a ha) h.p.n0) (h.ar a ha)).2, h.al⟩
theorem PcOf.cellq {w : World} {r : Nat → Nat} {q i : Nat} {v : Value} (hq : N0 ≤ q) : ∀ {ps : List (Nat × List UInt8)} {cs : List Value}, PcOf w r N0 (fun _ => 1) ps cs → PcOf (w.setCell ⟨q, i, none⟩ v) r N0 (fun _ => 1) ps cs
  | [], _, h => h
  | (l, b) :: ps, _, ⟨a, n, c, cs', he, hb, hr, hl, ht⟩ => ⟨a, n, c, cs', he, RS.setOther hb (fun y hy => by have := (hl y hy).1; show y.block ≠ q; omega) v, hr, hl, PcOf.cellq hq ht⟩
theorem InS.set (h : InS w wj ra rb r1 r2 g1 g2 S1 S2 A1 A2 N0 pa pn pc cs ps' cs' q l ad n c x) {ad' : Option Addr} {n' c' : Nat} {x' : List UInt8} (hb : BS wj ad' n' c' x') (ha : ∀ a, ad' = some a → ∃ a0, ad = some a0 ∧ a.block = a0.block) :
    InS w (wj.setCell ⟨q, 1, none⟩ (.slice ad' n' c')) ra rb r1 r2 g1 g2 S1 S2 A1 A2 N0 pa pn pc cs ps' cs' q l ad' n' c' x' := by
  have hg := grownBy_setCell wj ⟨q, 1, none⟩ (.slice ad' n' c')
  have hs : (wj.setCell ⟨q, 1, none⟩ (.slice ad' n' c')).heap.size = wj.heap.size := by simp [World.setCell]
  have hal : ∀ a, ad' = some a → a.block < N0 := fun a h1 => by obtain ⟨a0, h2, h3⟩ := ha a h1; rw [h3]; exact h.al a0 h2
  have kp : Kp2 w (wj.setCell ⟨q, 1, none⟩ (.slice ad' n' c')) ra rb r1 r2 := by
    have k := h.p.kp
    refine ⟨hg.os.trans k.os, hg.tape.trans k.tape, hg.output.trans k.output, Nat.le_trans k.size hg.size, fun j hj h1 h2 => ?_⟩
    obtain ⟨e1, e2, e3⟩ := k.blk j hj h1 h2
    exact ⟨(hg.block j (Nat.lt_of_lt_of_le hj k.size) (fun he => by injection he with he; have he : j = q := he; have := h.qn; have := h.p.wN; omega)).trans e1, e2, e3⟩
  refine ⟨⟨h.p.tm.cell h.q1 h.q2 h.qr 1 _, kp, h.p.row.setOther (fun a h1 => h.qp a h1) _, h.p.rb, fun a h1 => by rw [hs]; exact h.p.rl a h1, h.p.ps.cellq h.qn, by rw [hs]; exact h.p.n0, h.p.wN⟩, ?_, h.q1, h.q2, h.qn, h.qr, h.qp, RS.setOther hb (fun a h1 => by have := hal a h1; have := h.qn; show a.block ≠ q; omega) _, fun a h1 => ?_, hal⟩
  · simp [World.setCell, Array.getElem?_modify, h.box]
  · obtain ⟨a0, h2, h3⟩ := ha a h1; rw [h3]; exact h.ar a0 h2
theorem PcS.bel (h : PcS w wj ra rb r1 r2 g1 g2 S1 S2 A1 A2 N0 pa pn pc cs ps' cs') (hb : Below wj.heap.size wj w') : PcS w w' ra rb r1 r2 g1 g2 S1 S2 A1 A2 N0 pa pn pc cs ps' cs' :=
  h.hear (h.tm.b.below hb) (Below.kpt hb h.tm.b.gp.top)
theorem PcS.drew (h : PcS w wj ra rb r1 r2 g1 g2 S1 S2 A1 A2 N0 pa pn pc cs ps' cs') : PcS w wj.drew ra rb r1 r2 g1 g2 S1 S2 A1 A2 N0 pa pn pc cs ps' cs' :=
  h.bel ((Below.refl _ wj).drew)
theorem InS.drew (h : InS w wj ra rb r1 r2 g1 g2 S1 S2 A1 A2 N0 pa pn pc cs ps' cs' q l ad n c x) : InS w wj.drew ra rb r1 r2 g1 g2 S1 S2 A1 A2 N0 pa pn pc cs ps' cs' q l ad n c x :=
  ⟨h.p.drew, h.box, h.q1, h.q2, h.qn, h.qr, h.qp, h.bs, h.ar, h.al⟩
/-- the next piece is taken into a cell of its own -/
theorem PcS.next {b : List UInt8} (h : PcS w wj ra rb r1 r2 g1 g2 S1 S2 A1 A2 N0 pa pn pc cs ((l, b) :: ps') cs') :
    ∃ a n c cs2, cs' = .int .i64 (l : Int) :: .slice a n c :: cs2 ∧ n = b.length ∧ ∀ w1, Below wj.heap.size wj w1 → w1.heap[wj.heap.size]? = some (.cells #[.int .i64 (l : Int), .slice a n c] 36 (0, 0)) → InS w w1 ra rb r1 r2 g1 g2 S1 S2 A1 A2 N0 pa pn pc cs ps' cs2 wj.heap.size l a n c b := by
  obtain ⟨a, n, c, cs2, he, hbs, hr, hl, ht⟩ := h.ps
  refine ⟨a, n, c, cs2, he, (BS.len hbs).symm, fun w1 hb hq => ?_⟩
  have h1 := h.bel hb
  refine ⟨⟨h1.tm, h1.kp, h1.row, h1.rb, h1.rl, ht.kpt (Below.kpt hb h.tm.b.gp.top) h.n0, h1.n0, h1.wN⟩, hq, h.tm.a.gp.top _ (Nat.le_refl _), h.tm.b.gp.top _ (Nat.le_refl _), h.n0, ?_, fun a1 ha1 => ?_, RS.below hbs hb (Nat.le_refl _), hr, fun a1 ha1 => (hl a1 ha1).1⟩
  · have := h.tm.kt.lt; omega
  · have := h.rl a1 ha1; omega
end
/-- the pieces from j on -/
def PcR (w : World) (ra rb r1 : Nat → Nat) (g1 g2 : Nat) (S1 : MS) (A1 : MA) (part X N0 : Nat) (pa : Option Addr) (pn pc : Nat) (cs : List Value) (ps : List (Nat × List UInt8)) (F : MS × Nat) (j : Nat) (wj : World) : Prop :=
  ∃ r2 S2 A2 D, PcS w wj ra rb r1 r2 g1 g2 S1 S2 A1 A2 N0 pa pn pc cs (ps.drop j) (cs.drop (2 * j)) ∧ feedL part (ps.drop j) S2 = F ∧ Bn S2 4000000000 D ∧ D + pcs (ps.drop j) ≤ X
/-- the rest of a piece -/
def InR (w : World) (ra rb r1 : Nat → Nat) (g1 g2 : Nat) (S1 : MS) (A1 : MA) (part X N0 : Nat) (pa : Option Addr) (pn pc : Nat) (cs : List Value) (ps' : List (Nat × List UInt8)) (cs' : List Value) (q l : Nat) (G : MS × Nat) (wj : World) : Prop :=
  ∃ r2 S2 A2 D ad n c x, InS w wj ra rb r1 r2 g1 g2 S1 S2 A1 A2 N0 pa pn pc cs ps' cs' q l ad n c x ∧ feedM part l n x S2 = G ∧ Bn S2 4000000000 D ∧ D + n + pcs ps' ≤ X
def boxN (q : Nat) (w : World) : Nat := match w.cell? ⟨q, 1, none⟩ with | some (.slice _ n _) => n | _ => 0
theorem InS.boxN {w wj : World} {ra rb r1 r2 : Nat → Nat} {g1 g2 : Nat} {S1 S2 : MS} {A1 A2 : MA} {N0 : Nat} {pa : Option Addr} {pn pc : Nat} {cs : List Value} {ps' : List (Nat × List UInt8)} {cs' : List Value} {q l : Nat} {ad : Option Addr} {n c : Nat} {x : List UInt8}
    (h : InS w wj ra rb r1 r2 g1 g2 S1 S2 A1 A2 N0 pa pn pc cs ps' cs' q l ad n c x) : boxN q wj = n := by
  have := h.box
  simp [Go.Proofs.YtkhcpnmbhbhcgaaDoor.boxN, World.cell?, this]
/-- &l[i] of a slice of pieces -/
theorem L_index2 {P : Program} {w : World} {ops : Array Oper} {rest : List Oper} {o : Oper} {f : Act} {Q : Exit → Act → World → Prop} {t e : TypeId} {zero : Value} {bytes : Nat} (ty : STy P t e zero 2 bytes) {b of n c : Nat} (x i : Operand) (hg : Region.wanted o (yielded ops f.tmps) = true)
    (hop : o.op = .indexAddr t x i) (k : IntKind) (I : Int) (j : Nat) (ex : f.eval x = .slice (some ⟨b, of, none⟩) n c) (ei : f.eval i = .int k I) (hI : I = j) (h1 : j < n)
    (h : wpList P ops Q rest (f.put o.dst (.pointer (some ⟨b, of + 2 * j, none⟩))) w) : wpList P ops Q (o :: rest) f w := by
  subst hI
  refine wpList_on hg fun K hK => ?_
  have hrun : (Instr.indexAt t (.slice (some ⟨b, of, none⟩) n c) (.int k (j : Int))).run P w = .ok (.pointer (some ⟨b, of + 2 * j, none⟩)) w := by
    rw [run_indexAt_slice w t _ n c k _ ty.und', if_pos ⟨by omega, by omega⟩, ty.sizeOf]
    simp [Result.andThen, add_plain, Nat.mul_comm]
  unfold Oper.wp
  simp only [execOp, hop, ex, ei]
  simp [hrun, Result.andThen]
  exact hK _ _ h
theorem L_index20 {P : Program} {w : World} {ops : Array Oper} {rest : List Oper} {o : Oper} {f : Act} {Q : Exit → Act → World → Prop} {t e : TypeId} {zero : Value} {bytes : Nat} (ty : STy P t e zero 2 bytes) {b n c : Nat} (x i : Operand) (hg : Region.wanted o (yielded ops f.tmps) = true)
    (hop : o.op = .indexAddr t x i) (k : IntKind) (I : Int) (j : Nat) (ex : f.eval x = .slice (some ⟨b, 0, none⟩) n c) (ei : f.eval i = .int k I) (hI : I = j) (h1 : j < n) {J : Nat} (hJ : 2 * j = J)
    (h : wpList P ops Q rest (f.put o.dst (.pointer (some ⟨b, J, none⟩))) w) : wpList P ops Q (o :: rest) f w :=
  L_index2 ty x i hg hop k I j ex ei hI h1 (by rw [Nat.zero_add, hJ]; exact h)
theorem pcs_cells {w : World} {pb pn pc : Nat} {cs : List Value} (h : RS w 2 (some ⟨pb, 0, none⟩) pn pc cs) {J : Nat} {v u : Value} {t : List Value} (hd : cs.drop J = v :: u :: t) : w.cell? ⟨pb, J, none⟩ = some v ∧ w.cell? ⟨pb, J + 1, none⟩ = some u := by
  have h0 : cs[J]? = some v := by
    have := congrArg (·[0]?) hd
    simpa [List.getElem?_drop] using this
  have h1 : cs[J + 1]? = some u := by
    have := congrArg (·[1]?) hd
    simpa [List.getElem?_drop] using this
  have k0 := (h.2.2.2.2.2 _ rfl).2 J v h0
  have k1 := (h.2.2.2.2.2 _ rfl).2 (J + 1) u h1
  simp only [Nat.zero_add] at k0 k1
  exact ⟨k0, k1⟩
theorem meetM_more {part : Nat} {n : Nat} {S1 S2 : MS} {R : MS × MS × Nat} {F : MS × Nat} (h : meetM part (n + 1) S1 S2 = R) (hF : feedL part (outM S1).2 S2 = F) :
    (F.2 ≠ 0 → R = ((outM S1).1, F.1, F.2)) ∧ (F.2 = 0 → meetM part n F.1 (outM S1).1 = R) := by
  rw [meetM, hF] at h
  constructor
  · intro h0; rw [if_pos h0] at h; exact h.symm
  · intro h0; rw [if_neg (by simp [h0])] at h; exact h
theorem feedL_more {part l : Nat} {b : List UInt8} {ps : List (Nat × List UInt8)} {S : MS} {F G : MS × Nat} (h : feedL part ((l, b) :: ps) S = F) (hG : feedM part l b.length b S = G) :
    (G.2 ≠ 0 → F = G) ∧ (G.2 = 0 → feedL part ps G.1 = F) := by
  rw [feedL, hG] at h
  constructor
  · intro h0; rw [if_pos h0] at h; exact h.symm
  · intro h0; rw [if_neg (by simp [h0])] at h; exact h
theorem feedM_more {part l n : Nat} (hp : 0 < part) {x : List UInt8} (hn : x.length = n) (h0 : 0 < n) {S : MS} {G : MS × Nat} (h : feedM part l n x S = G) :
    ((hearM l (x.take part) S).wrong ≠ 0 → G = (hearM l (x.take part) S, (hearM l (x.take part) S).wrong)) ∧ ((hearM l (x.take part) S).wrong = 0 → feedM part l (n - min n part) (x.drop (min n part)) (hearM l (x.take part) S) = G) := by
  obtain ⟨k, rfl⟩ : ∃ k, n = k + 1 := ⟨n - 1, by omega⟩
  rw [feedM, if_neg (by intro h; rw [h] at hn; cases hn)] at h
  constructor
  · intro h1; rw [if_pos h1] at h; exact h.symm
  · intro h1
    rw [if_neg (by simp [h1])] at h
    rw [← h]
    have hd : x.drop (min (k + 1) part) = x.drop part := by
      by_cases hle : part ≤ k + 1
      · rw [Nat.min_eq_right hle]
      · rw [Nat.min_eq_left (by omega), List.drop_eq_nil_of_le (by omega), List.drop_eq_nil_of_le (by omega)]
    rw [hd]
    exact feedM_fuel part l hp _ _ _ _ (by rw [List.length_drop]; omega) (by rw [List.length_drop]; omega)
theorem outM_two (S : MS) : (outM S).2.length ≤ 2 := by
  unfold outM out0 out1
  split
  · split
    · simp
    · simp
  · split
    · simp
    · simp
end Go.Proofs.YtkhcpnmbhbhcgaaDoor

/- greet.New. -/
set_option maxRecDepth 100000
set_option linter.unusedVariables false
namespace Go.Proofs.YtkhcpnmbhbhcgaaDoor
open Go.RowKit Go.Joins
/-- a side's cells, as the program has it -/
def cfc (server : Bool) (v1 v2 v3 : Value) (rnd : List UInt8) : List Value := [.bool server, v1, v2, v3] ++ rnd.map B
def CZ (w : World) (b : Nat) (server : Bool) (v1 v2 v3 : Value) (rnd : List UInt8) : Prop := w.heap[b]? = some (.cells (cfc server v1 v2 v3 rnd).toArray 28 (0, 0))
section
variable {w w' : World} {b : Nat} {server : Bool} {v1 v2 v3 : Value} {rnd : List UInt8}
theorem CZ.lt (h : CZ w b server v1 v2 v3 rnd) : b < w.heap.size := (Array.getElem?_eq_some_iff.1 h).1
theorem CZ.at_ (h : CZ w b server v1 v2 v3 rnd) (i : Nat) : w.cell? ⟨b, i, none⟩ = (cfc server v1 v2 v3 rnd)[i]? := by
  unfold CZ at h; simp [World.cell?, h]
theorem CZ.fr (h : CZ w b server v1 v2 v3 rnd) (i : Nat) : w.frozen? ⟨b, i, none⟩ = false := by
  unfold CZ at h; simp [World.frozen?, h]
theorem CZ.keep (h : CZ w b server v1 v2 v3 rnd) (hk : w'.heap[b]? = w.heap[b]?) : CZ w' b server v1 v2 v3 rnd := by unfold CZ; rw [hk]; exact h
theorem CZ.bel (h : CZ w b server v1 v2 v3 rnd) (hb : Below w.heap.size w w') : CZ w' b server v1 v2 v3 rnd := h.keep (hb.block _ h.lt)
theorem CZ.s1 (h : CZ w b server v1 v2 v3 rnd) (v : Value) : CZ (w.setCell ⟨b, 1, none⟩ v) b server v v2 v3 rnd := by
  unfold CZ at h ⊢; simp [World.setCell, Array.getElem?_modify, h, cfc]
theorem CZ.s2 (h : CZ w b server v1 v2 v3 rnd) (v : Value) : CZ (w.setCell ⟨b, 2, none⟩ v) b server v1 v v3 rnd := by
  unfold CZ at h ⊢; simp [World.setCell, Array.getElem?_modify, h, cfc]
theorem CZ.s3 (h : CZ w b server v1 v2 v3 rnd) (v : Value) : CZ (w.setCell ⟨b, 3, none⟩ v) b server v1 v2 v rnd := by
  unfold CZ at h ⊢; simp [World.setCell, Array.getElem?_modify, h, cfc]
end
def A00 : MA := ⟨⟨none, 0, 0⟩, ⟨none, 0, 0⟩, ⟨none, 0, 0⟩, ⟨none, 0, 0⟩, ⟨none, 0, 0⟩, ⟨none, 0, 0⟩, ⟨none, 0, 0⟩, ⟨none, 0, 0⟩, ⟨none, 0, 0⟩, ⟨none, 0, 0⟩⟩
theorem mzero : (Tryd.prog.info? 76).map (fun i => i.zero.map (·.cells.toList)) = some (some (mc (baseM false z32 [] [] [] []) A00)) := by kernel_rfl
def AN (id sec par nx : SA) : MA := ⟨id, sec, par, ⟨none, 0, 0⟩, ⟨none, 0, 0⟩, ⟨none, 0, 0⟩, ⟨none, 0, 0⟩, ⟨none, 0, 0⟩, nx, ⟨none, 0, 0⟩⟩
theorem builtM {server : Bool} {rnd : List UInt8} (hr : rnd.length = 32) (id sec par : List UInt8) (nx : List (Nat × Nat)) (aid asec apar anx : SA) :
    Tryd.prog.built 76 [(0, .agg (cfc server aid.v asec.v apar.v rnd).toArray), (4, anx.v)] = some (mc (baseM server rnd id sec par nx) (AN aid asec apar anx)).toArray := by
  cases hq : Tryd.prog.info? 76 with
  | none => have := mzero; simp [hq] at this
  | some it =>
    cases hzz : it.zero with
    | none => have := mzero; simp [hq, hzz] at this
    | some z =>
      have hz : z.cells.toList = mc (baseM false z32 [] [] [] []) A00 := by have := mzero; simpa [hq, hzz] using this
      have hsz : z.cells.size = 273 := by rw [← Array.length_toList, hz]; rfl
      obtain ⟨fields, hu, hp⟩ : ∃ fields : Array Field, Tryd.prog.underlying 76 = some (.struct fields) ∧ fields.toList.mapM (fun f => (Tryd.prog.info? f.type).map fun i => (f.offset, i.size)) = some [(0, 36), (36, 1), (37, 2), (39, 2), (41, 1), (42, 32), (74, 195), (269, 1), (270, 1), (271, 1), (272, 1)] := ⟨_, Tryd.underlying76, by kernel_rfl⟩
      unfold Program.built
      rw [hq, hu]
      simp only [hzz, hp]
      have hA : (cfc server aid.v asec.v apar.v rnd).length = 36 := by simp [cfc, hr]
      rw [fill_cons _ _ 0 (cfc server aid.v asec.v apar.v rnd) _ 0 36 rfl hA (by omega),
        fill_one _ _ 4 anx.v _ 41 rfl rfl (by simp [hA, hsz]; try omega)]
      rw [Instr.fill, hz]
      have e1 : List.take 41 (List.take 0 (mc (baseM false z32 [] [] [] []) A00) ++ cfc server aid.v asec.v apar.v rnd ++ List.drop (0 + 36) (mc (baseM false z32 [] [] [] []) A00)) = cfc server aid.v asec.v apar.v rnd ++ List.take 5 (List.drop 36 (mc (baseM false z32 [] [] [] []) A00)) := by
        rw [List.take_zero, List.nil_append, List.take_append, hA, List.take_of_length_le (by omega)]
      have e2 : List.drop (41 + 1) (List.take 0 (mc (baseM false z32 [] [] [] []) A00) ++ cfc server aid.v asec.v apar.v rnd ++ List.drop (0 + 36) (mc (baseM false z32 [] [] [] []) A00)) = List.drop 6 (List.drop 36 (mc (baseM false z32 [] [] [] []) A00)) := by
        rw [List.take_zero, List.nil_append, List.drop_append, hA, List.drop_eq_nil_of_le (by omega), List.nil_append]
      simp only [e1, e2]
      rw [show List.take 5 (List.drop 36 (mc (baseM false z32 [] [] [] []) A00)) = [.slice none 0 0, .slice none 0 0, .slice none 0 0, .slice none 0 0, .slice none 0 0] by rfl]
      rw [show List.drop 6 (List.drop 36 (mc (baseM false z32 [] [] [] []) A00)) = z32.map B ++ pc zp ++ pc zp ++ pc zp ++ [.slice none 0 0, .bool false, .bool false, .int .u64 0] by rfl]
      simp [mc, cfc, baseM, AN, SA.v]
theorem base_ok {server : Bool} {rnd : List UInt8} (hr : rnd.length = 32) (id sec par : List UInt8) (nx : List (Nat × Nat)) : (baseM server rnd id sec par nx).Ok :=
  ⟨hr, z32_len, z32_len, z32_len, z32_len, z32_len, z32_len, z32_len⟩
/-- the first roles -/
def role0 (g lo hi : Nat) : Nat → Nat := fun k => if k = g then 6 else if lo ≤ k ∧ k < hi then 7 else 0
theorem role0_low {g lo hi : Nat} (hg : lo ≤ g) (k : Nat) (hk : k < lo) : role0 g lo hi k = 0 := by
  unfold role0; rw [if_neg (by omega), if_neg (by omega)]
theorem OW.r7 {w : World} {lo base g : Nat} {e : TypeId} {z n c : Nat} {a : Option Addr} {vs : List Value} (h : OW w base e z a n c vs) (hb : lo ≤ base) (hne : ∀ ad, a = some ad → ad.block ≠ g) : RB (role0 g lo w.heap.size) 7 a := fun ad ha => by
  have h1 := h.base_le ha
  unfold role0
  rw [if_neg (hne ad ha), if_pos ⟨by omega, h1.2⟩]
theorem GM.first {w : World} {lo g n1 c1 n2 c2 n3 c3 n4 c4 : Nat} {a1 a2 a3 a4 : Option Addr} {server : Bool} {rnd id sec par : List UInt8} {nx : List (Nat × Nat)} (hr : rnd.length = 32)
    (hz : MZ w g (baseM server rnd id sec par nx) (AN ⟨a1, n1, c1⟩ ⟨a2, n2, c2⟩ ⟨a3, n3, c3⟩ ⟨a4, n4, c4⟩)) (hg : lo ≤ g)
    {e1 e2 e3 e4 : TypeId} (h1 : OW w lo e1 1 a1 n1 c1 (id.map B)) (h2 : OW w lo e2 1 a2 n2 c2 (sec.map B)) (h3 : OW w lo e3 1 a3 n3 c3 (par.map B)) (h4 : OW w lo e4 2 a4 n4 c4 (tcells nx))
    (g1 : ∀ ad, a1 = some ad → ad.block ≠ g) (g2 : ∀ ad, a2 = some ad → ad.block ≠ g) (g3 : ∀ ad, a3 = some ad → ad.block ≠ g) (g4 : ∀ ad, a4 = some ad → ad.block ≠ g) :
    GM w (role0 g lo w.heap.size) g (baseM server rnd id sec par nx) (AN ⟨a1, n1, c1⟩ ⟨a2, n2, c2⟩ ⟨a3, n3, c3⟩ ⟨a4, n4, c4⟩) :=
  ⟨hz, base_ok hr id sec par nx, ⟨by unfold role0; rw [if_pos rfl], hz.lt, fun k hk => by
      have := hz.lt
      unfold role0; rw [if_neg (by omega), if_neg (by omega)],
    h1.rs, h1.r7 (Nat.le_refl _) g1, h2.rs, h2.r7 (Nat.le_refl _) g2, h3.rs, h3.r7 (Nat.le_refl _) g3, RS_nil w 1, RB.nil _ _, h4.rs, h4.r7 (Nat.le_refl _) g4, OX.nil _ _ _ _, OX.nil _ _ _ _, OX.nil _ _ _ _, OX.nil _ _ _ _, OX.nil _ _ _ _⟩⟩
theorem L_build {w : World} {ops : Array Oper} {rest : List Oper} {o : Oper} {f : Act} {Q : Exit → Act → World → Prop} (hgd : o.guard = none) (t : TypeId) (parts : Array (Nat × Operand)) (ho : o.op = .build t parts) {cells : Array Value}
    (hb : Tryd.prog.built t (parts.map fun (i, x) => (i, f.eval x)).toList = some cells)
    (h : wpList Tryd.prog ops Q rest (f.put o.dst (.agg cells)) w) : wpList Tryd.prog ops Q (o :: rest) f w := by
  refine wpList_on (by simp [Region.wanted, hgd]) fun K hK => ?_
  refine wp_build t parts ho (by rw [hb]; rfl) ?_
  rw [hb]; exact hK _ _ h
theorem newM_par (server : Bool) (rnd id sec par : List UInt8) : (newM server rnd id sec par).par = par := by unfold newM; split <;> rfl
end Go.Proofs.YtkhcpnmbhbhcgaaDoor

/- a side that the law makes: its rows; copy into an array of the call's own. -/
set_option maxRecDepth 100000
set_option linter.unusedVariables false
namespace Go.Proofs.YtkhcpnmbhbhcgaaDoor
open Go.RowKit Go.Joins
theorem W_copy_B {P : Program} {w : World} {e' : TypeId} {o : Oper} {f : Act} {K : Act → World → Prop} {Q : Exit → Act → World → Prop} {t e : TypeId} {zero : Value} {bytes : Nat}
    (ty : STy P t e zero 1 bytes) (d s : Operand) (ho : o.op = .call { callee := .builtin .copy, args := #[d, s], argTypes := #[t, t] })
    {g N C n c : Nat} {a : Option Addr} {xs ys : List UInt8} (hd : f.eval d = .slice (some ⟨g, 0, none⟩) N C) (hs : f.eval s = .slice a n c)
    (hA : AB w g e' xs) (hl : xs.length = N) (hB : BS w a n c ys)
    (h : ∀ w', AB w' g e' (ys.take N ++ xs.drop n) → w.grownBy w' (some g) → K (f.put o.dst (goInt (Nat.min n N))) w') : o.wp P f w K Q := by
  obtain ⟨i, hi, hz0, hz1, hz2⟩ := info_parts ty.info
  have hsz : (P.info? e).map (·.size) = some 1 := by rw [hi]; simp [hz1]
  have hyl := BS.len hB
  by_cases h0 : n = 0
  · subst h0
    obtain rfl : ys = [] := List.eq_nil_of_length_eq_zero hyl
    have hrun := run_copy_none (P := P) w t t o.type e (some ⟨g, 0, none⟩) a N C 0 c ty.und hsz (by simp [Nat.min])
    have h2 := h w (by simpa using hA) (World.grownBy.refl w _)
    unfold Oper.wp
    simp only [execOp, ho, resolve, invoke, builtin, Sem.run_bind, Sem.run_pure, Result.andThen_ok, List.map_toArray, List.map_cons, List.map_nil, hd, hs, hrun]
    rw [show Nat.min 0 N = 0 from Nat.zero_min N] at h2
    exact h2
  · cases a with
    | none => have := (RS.nil_inv hB).1; omega
    | some ad =>
      unfold AB at hA
      have hcl : ((ys.take N).map B).length = Nat.min n N := by
        rw [List.length_map, List.length_take, hyl]; exact Nat.min_comm _ _
      have hrun := run_copy_row (P := P) w t t o.type e g 0 N C ad n c _ e' ((ys.take N).map B) ty.und hsz hA hcl
        (fun j v hv => by
          rw [List.map_take, List.getElem?_take] at hv
          split at hv
          · exact RS.cells hB rfl j v hv
          · cases hv) (by rw [hcl]; have : Nat.min n N ≤ N := Nat.min_le_right n N; simp [hl]; exact this) (one_B _)
      rw [hcl] at hrun
      have h2 := h _ (show AB (w.setRow g (List.take 0 (xs.map B).toArray.toList ++ (ys.take N).map B ++ List.drop (0 + Nat.min n N) (xs.map B).toArray.toList).toArray) g e' _ by
        unfold AB
        rw [setRow_heap w g _ _ e' _ hA]
        have : xs.drop (Nat.min n N) = xs.drop n := by
          by_cases hle : n ≤ N
          · rw [show Nat.min n N = n from Nat.min_eq_left hle]
          · rw [show Nat.min n N = N from Nat.min_eq_right (by omega), List.drop_eq_nil_of_le (by omega), List.drop_eq_nil_of_le (by omega)]
        simp [hl]) (grownBy_setRow w g _)
      unfold Oper.wp
      simp only [execOp, ho, resolve, invoke, builtin, Sem.run_bind, Sem.run_pure, Result.andThen_ok, List.map_toArray, List.map_cons, List.map_nil, hd, hs, hrun]
      exact h2
/-- a side's cells, as the document has it -/
def SZ (w : World) (b : Nat) (sv : Bool) (v1 v2 v3 v4 : Value) : Prop := w.heap[b]? = some (.cells #[.bool sv, v1, v2, v3, v4] 24 (0, 0))
section
variable {w w' : World} {b : Nat} {sv : Bool} {v1 v2 v3 v4 : Value}
theorem SZ.lt (h : SZ w b sv v1 v2 v3 v4) : b < w.heap.size := (Array.getElem?_eq_some_iff.1 h).1
theorem SZ.c0 (h : SZ w b sv v1 v2 v3 v4) : w.cell? ⟨b, 0, none⟩ = some (.bool sv) := by unfold SZ at h; simp [World.cell?, h]
theorem SZ.c1 (h : SZ w b sv v1 v2 v3 v4) : w.cell? ⟨b, 1, none⟩ = some v1 := by unfold SZ at h; simp [World.cell?, h]
theorem SZ.c2 (h : SZ w b sv v1 v2 v3 v4) : w.cell? ⟨b, 2, none⟩ = some v2 := by unfold SZ at h; simp [World.cell?, h]
theorem SZ.c3 (h : SZ w b sv v1 v2 v3 v4) : w.cell? ⟨b, 3, none⟩ = some v3 := by unfold SZ at h; simp [World.cell?, h]
theorem SZ.c4 (h : SZ w b sv v1 v2 v3 v4) : w.cell? ⟨b, 4, none⟩ = some v4 := by unfold SZ at h; simp [World.cell?, h]
theorem SZ.fr (h : SZ w b sv v1 v2 v3 v4) (i : Nat) : w.frozen? ⟨b, i, none⟩ = false := by unfold SZ at h; simp [World.frozen?, h]
theorem SZ.keep (h : SZ w b sv v1 v2 v3 v4) (hk : w'.heap[b]? = w.heap[b]?) : SZ w' b sv v1 v2 v3 v4 := by unfold SZ; rw [hk]; exact h
theorem SZ.bel (h : SZ w b sv v1 v2 v3 v4) (hb : Below w.heap.size w w') : SZ w' b sv v1 v2 v3 v4 := h.keep (hb.block _ h.lt)
theorem SZ.s1 (h : SZ w b sv v1 v2 v3 v4) (v : Value) : SZ (w.setCell ⟨b, 1, none⟩ v) b sv v v2 v3 v4 := by unfold SZ at h ⊢; simp [World.setCell, Array.getElem?_modify, h]
theorem SZ.s2 (h : SZ w b sv v1 v2 v3 v4) (v : Value) : SZ (w.setCell ⟨b, 2, none⟩ v) b sv v1 v v3 v4 := by unfold SZ at h ⊢; simp [World.setCell, Array.getElem?_modify, h]
theorem SZ.s3 (h : SZ w b sv v1 v2 v3 v4) (v : Value) : SZ (w.setCell ⟨b, 3, none⟩ v) b sv v1 v2 v v4 := by unfold SZ at h ⊢; simp [World.setCell, Array.getElem?_modify, h]
theorem SZ.s4 (h : SZ w b sv v1 v2 v3 v4) (v : Value) : SZ (w.setCell ⟨b, 4, none⟩ v) b sv v1 v2 v3 v := by unfold SZ at h ⊢; simp [World.setCell, Array.getElem?_modify, h]
end
def pad32 (r : List UInt8) : List UInt8 := r.take 32 ++ z32.drop r.length
theorem pad32_len (r : List UInt8) : (pad32 r).length = 32 := by
  unfold pad32
  rw [List.length_append, List.length_take, List.length_drop, z32_len]; omega
theorem results_rows2' {P : Program} {fn : Func} {p q : Tmp} {ty ty' : TypeId} (h : fn.results = #[.cell p ty, .cell q ty']) (tmps : Array Value) (w : World) (g k : Nat) (t t' : TypeId) (cs ds : Array Value) (d d' : TypeDesc)
    (hp : tmps.getD p undef = .pointer (some ⟨g, 0, none⟩)) (hq : tmps.getD q undef = .pointer (some ⟨k, 0, none⟩)) (hg : w.heap[g]? = some (.cells cs t (0, 0))) (hk : w.heap[k]? = some (.cells ds t' (0, 0)))
    (hu : P.underlying ty = some d) (hd : (match d with | .struct _ | .array _ _ => true | _ => false) = true) (hu' : P.underlying ty' = some d') (hd' : (match d' with | .struct _ | .array _ _ => true | _ => false) = true) (hi : (P.info? ty).map (·.size) = some cs.size) (hj : (P.info? ty').map (·.size) = some ds.size) :
    (results fn tmps).run P w = .ok (.tuple #[.agg cs, .agg ds]) w := by
  have hp' : tmps[p]?.getD undef = .pointer (some ⟨g, 0, none⟩) := by simpa using hp
  have hq' : tmps[q]?.getD undef = .pointer (some ⟨k, 0, none⟩) := by simpa using hq
  simp [results, h, hp', hq', asAddr, run_loadVar_row w g t ty cs _ d hg hu hd hi, run_loadVar_row w k t' ty' ds _ d' hk hu' hd' hj, Result.andThen]
/-- Cut, as a row of the call's own -/
theorem cutx_any (w : World) {a : Option Addr} {n c : Nat} {xs : List UInt8} (hx : BS w a n c xs) (k : Nat) (hk : k ≤ 1000000) :
    Calls Tryd.prog 18 #[.slice a n c, .int .i64 (k : Int)] w fun e w' => ∃ a' c', e = .returned (.slice a' (xs.take k).length c') ∧ OW w' w.heap.size 5 1 a' (xs.take k).length c' ((xs.take k).map B) ∧ Below w.heap.size w w' := by
  have hl := BS.len hx
  refine (cut_any w hx (k : Int) (by omega) (by omega)).mono ?_
  rintro e w' ⟨a', c', rfl, h1, h2⟩
  have e1 : (xs.take k).length = min n k := by rw [List.length_take, hl]; exact Nat.min_comm _ _
  rw [e1]
  have e2 : (xs.take k).map B = (xs.map B).take (min n (k : Int).toNat) := by
    rw [← List.map_take]
    congr 1
    rw [Int.toNat_natCast]
    by_cases h : k ≤ n
    · rw [Nat.min_eq_right h]
    · rw [Nat.min_eq_left (by omega), List.take_of_length_le (by omega), List.take_of_length_le (by omega)]
  rw [e2]
  rw [Int.toNat_natCast] at h1 ⊢
  exact ⟨a', c', rfl, h1, h2⟩
/-- what side hands back: rows of the call's own, those of the program's side younger than the others -/
structure SideQ (w w' : World) (N : Nat) (id sec par rnd : List UInt8) (i1 s1 p1 r1 i2 s2 p2 : SA) : Prop where
  low : w.heap.size ≤ N
  bel : Below w.heap.size w w'
  hi : OW w' w.heap.size 5 1 i1.a i1.n i1.c ((id.take 80).map B)
  hs : OW w' w.heap.size 5 1 s1.a s1.n s1.c ((sec.take 80).map B)
  hp : OW w' w.heap.size 5 1 p1.a p1.n p1.c ((par.take 600).map B)
  hr : OW w' w.heap.size 5 1 r1.a r1.n r1.c ((pad32 rnd).map B)
  li : ∀ ad, i1.a = some ad → ad.block < N
  ls : ∀ ad, s1.a = some ad → ad.block < N
  lp : ∀ ad, p1.a = some ad → ad.block < N
  lr : ∀ ad, r1.a = some ad → ad.block < N
  hi2 : OW w' N 5 1 i2.a i2.n i2.c ((id.take 80).map B)
  hs2 : OW w' N 5 1 s2.a s2.n s2.c ((sec.take 80).map B)
  hp2 : OW w' N 5 1 p2.a p2.n p2.c ((par.take 600).map B)
theorem builtC {sv : Bool} {v1 v2 v3 : SA} {rnd : List UInt8} (hr : rnd.length = 32) :
    Tryd.prog.built 28 [(0, .bool sv), (1, v1.v), (2, v2.v), (3, v3.v), (4, .agg (rnd.map B).toArray)] = some (cfc sv v1.v v2.v v3.v rnd).toArray := by
  have hz0 : (Tryd.prog.info? 28).map (fun i => i.zero.map (·.cells.size)) = some (some 36) := by kernel_rfl
  cases hq : Tryd.prog.info? 28 with
  | none => simp [hq] at hz0
  | some it =>
    cases hzz : it.zero with
    | none => simp [hq, hzz] at hz0
    | some z =>
      have hsz : z.cells.size = 36 := by simpa [hq, hzz] using hz0
      have hzl : z.cells.toList.length = 36 := by rw [Array.length_toList]; exact hsz
      obtain ⟨L, hL⟩ : ∃ L, z.cells.toList = L := ⟨_, rfl⟩
      obtain ⟨l0, l1, l2, l3, Z, rfl, hZ⟩ : ∃ l0 l1 l2 l3 Z, L = [l0, l1, l2, l3] ++ Z ∧ Z.length = 32 := by
        rw [hL] at hzl
        match L, hzl with
        | l0 :: l1 :: l2 :: l3 :: Z, h => exact ⟨l0, l1, l2, l3, Z, rfl, by simpa using h⟩
      obtain ⟨fields, hu, hp⟩ : ∃ fields : Array Field, Tryd.prog.underlying 28 = some (.struct fields) ∧ fields.toList.mapM (fun f => (Tryd.prog.info? f.type).map fun i => (f.offset, i.size)) = some [(0, 1), (1, 1), (2, 1), (3, 1), (4, 32)] := ⟨_, Tryd.underlying28, by kernel_rfl⟩
      have hrb : (rnd.map B).length = 32 := by rw [List.length_map, hr]
      unfold Program.built
      rw [hq, hu]
      simp only [hzz, hp]
      rw [fill_one _ _ 0 (.bool sv) _ 0 rfl rfl (by omega)]
      rw [fill_one _ _ 1 v1.v _ 1 rfl rfl (by simp [hL, hZ])]
      rw [fill_one _ _ 2 v2.v _ 2 rfl rfl (by simp [hL, hZ])]
      rw [fill_one _ _ 3 v3.v _ 3 rfl rfl (by simp [hL, hZ])]
      rw [fill_cons _ _ 4 (rnd.map B) _ 4 32 rfl hrb (by simp [hL, hZ])]
      rw [Instr.fill]
      simp [hL, cfc, hZ]
/-- side's three rows -/
structure SdW (w W : World) (b : Nat) (sv : Bool) (v1 v2 v3 v4 : Value) : Prop where
  z : SZ W b sv v1 v2 v3 v4
  c : CZ W (b + 1) false (.slice none 0 0) (.slice none 0 0) (.slice none 0 0) z32
  z2 : SZ W (b + 1 + 1) false (.slice none 0 0) (.slice none 0 0) (.slice none 0 0) (.slice none 0 0)
  bel : Below b w W
section
variable {w W W' : World} {b : Nat} {sv : Bool} {v1 v2 v3 v4 : Value}
theorem SdW.next (h : SdW w W b sv v1 v2 v3 v4) (hb : Below W.heap.size W W') : SdW w W' b sv v1 v2 v3 v4 :=
  ⟨h.z.bel hb, h.c.bel hb, h.z2.bel hb, h.bel.trans (hb.mono (Nat.le_of_lt h.z.lt))⟩
theorem SdW.s1 (h : SdW w W b sv v1 v2 v3 v4) (v : Value) : SdW w (W.setCell ⟨b, 1, none⟩ v) b sv v v2 v3 v4 := by
  have hg := grownBy_setCell W ⟨b, 1, none⟩ v
  exact ⟨h.z.s1 v, h.c.keep (hg.block _ h.c.lt (fun he => by injection he with he; have he : b + 1 = b := he; omega)), h.z2.keep (hg.block _ h.z2.lt (fun he => by injection he with he; have he : b + 1 + 1 = b := he; omega)), h.bel.grown hg (Nat.le_of_lt h.z.lt) (fun k hk => by cases hk; exact Nat.le_refl _)⟩
theorem SdW.s2 (h : SdW w W b sv v1 v2 v3 v4) (v : Value) : SdW w (W.setCell ⟨b, 2, none⟩ v) b sv v1 v v3 v4 := by
  have hg := grownBy_setCell W ⟨b, 2, none⟩ v
  exact ⟨h.z.s2 v, h.c.keep (hg.block _ h.c.lt (fun he => by injection he with he; have he : b + 1 = b := he; omega)), h.z2.keep (hg.block _ h.z2.lt (fun he => by injection he with he; have he : b + 1 + 1 = b := he; omega)), h.bel.grown hg (Nat.le_of_lt h.z.lt) (fun k hk => by cases hk; exact Nat.le_refl _)⟩
theorem SdW.s3 (h : SdW w W b sv v1 v2 v3 v4) (v : Value) : SdW w (W.setCell ⟨b, 3, none⟩ v) b sv v1 v2 v v4 := by
  have hg := grownBy_setCell W ⟨b, 3, none⟩ v
  exact ⟨h.z.s3 v, h.c.keep (hg.block _ h.c.lt (fun he => by injection he with he; have he : b + 1 = b := he; omega)), h.z2.keep (hg.block _ h.z2.lt (fun he => by injection he with he; have he : b + 1 + 1 = b := he; omega)), h.bel.grown hg (Nat.le_of_lt h.z.lt) (fun k hk => by cases hk; exact Nat.le_refl _)⟩
theorem SdW.s4 (h : SdW w W b sv v1 v2 v3 v4) (v : Value) : SdW w (W.setCell ⟨b, 4, none⟩ v) b sv v1 v2 v3 v := by
  have hg := grownBy_setCell W ⟨b, 4, none⟩ v
  exact ⟨h.z.s4 v, h.c.keep (hg.block _ h.c.lt (fun he => by injection he with he; have he : b + 1 = b := he; omega)), h.z2.keep (hg.block _ h.z2.lt (fun he => by injection he with he; have he : b + 1 + 1 = b := he; omega)), h.bel.grown hg (Nat.le_of_lt h.z.lt) (fun k hk => by cases hk; exact Nat.le_refl _)⟩
theorem SdW.drew (h : SdW w W b sv v1 v2 v3 v4) : SdW w W.drew b sv v1 v2 v3 v4 := ⟨h.z, h.c, h.z2, h.bel.drew⟩
theorem SdW.grow (h : SdW w W b sv v1 v2 v3 v4) {row : Option Nat} (hg : W.grownBy W' row) (hr : ∀ k, row = some k → b + 1 + 1 < k) : SdW w W' b sv v1 v2 v3 v4 :=
  ⟨h.z.keep (hg.block _ h.z.lt (fun he => by have := hr _ he.symm; omega)), h.c.keep (hg.block _ h.c.lt (fun he => by have := hr _ he.symm; omega)), h.z2.keep (hg.block _ h.z2.lt (fun he => by have := hr _ he.symm; omega)), h.bel.grown hg (Nat.le_of_lt h.z.lt) (fun k hk => by have := hr k hk; omega)⟩
end
theorem SdW.start (w : World) (sv : Bool) (v1 v2 v3 v4 : Value) : SdW w (((w.alloc (.cells #[.bool sv, v1, v2, v3, v4] 24)).alloc (.cells (cfc false (.slice none 0 0) (.slice none 0 0) (.slice none 0 0) z32).toArray 28)).alloc (.cells #[.bool false, .slice none 0 0, .slice none 0 0, .slice none 0 0, .slice none 0 0] 24)) w.heap.size sv v1 v2 v3 v4 := by
  have h1 := heap_alloc_new w (.cells #[.bool sv, v1, v2, v3, v4] 24)
  obtain ⟨w1, e1⟩ : ∃ x, w.alloc (.cells #[.bool sv, v1, v2, v3, v4] 24) = x := ⟨_, rfl⟩
  have s1 : w1.heap.size = w.heap.size + 1 := by rw [← e1]; simp
  have b1 : Below w.heap.size w w1 := by rw [← e1]; exact below_alloc w _
  rw [e1] at h1 ⊢
  have h2 := heap_alloc_new w1 (.cells (cfc false (.slice none 0 0) (.slice none 0 0) (.slice none 0 0) z32).toArray 28)
  obtain ⟨w2, e2⟩ : ∃ x, w1.alloc (.cells (cfc false (.slice none 0 0) (.slice none 0 0) (.slice none 0 0) z32).toArray 28) = x := ⟨_, rfl⟩
  have s2 : w2.heap.size = w.heap.size + 1 + 1 := by rw [← e2]; simp [s1]
  have b2 : Below w1.heap.size w1 w2 := by rw [← e2]; exact below_alloc w1 _
  rw [e2, s1] at h2
  rw [e2]
  have h3 := heap_alloc_new w2 (.cells #[.bool false, .slice none 0 0, .slice none 0 0, .slice none 0 0, .slice none 0 0] 24)
  have b3 := below_alloc w2 (.cells #[.bool false, .slice none 0 0, .slice none 0 0, .slice none 0 0, .slice none 0 0] 24)
  rw [s2] at h3
  exact ⟨((b3.block _ (by omega)).trans (b2.block _ (by omega))).trans h1, (b3.block _ (by omega)).trans h2, h3, btr (btr b1 b2) b3⟩
theorem S_storeRow {w : World} {ops : Array Oper} {o : Oper} {f : Act} {K : Act → World → Prop} {Q : Exit → Act → World → Prop} {E : Prop} (hgd : o.guard = none) (t : TypeId) (x y : Operand) (ho : o.op = .store t x y)
    {g n : Nat} {t' : TypeId} {old new : List Value} (hx : f.eval x = .pointer (some ⟨g, 0, none⟩)) (hy : f.eval y = .agg new.toArray) (hA : w.heap[g]? = some (.cells old.toArray t' (0, 0))) (hi : (Tryd.prog.info? t).map (·.size) = some n) (hl : old.length = n) (hl2 : new.length = n) (h1 : ∀ v ∈ new, v.oneCell' = true)
    (h : ∀ w', w'.heap[g]? = some (.cells new.toArray t' (0, 0)) → w.grownBy w' (some g) → K (f.put o.dst undef) w') : if Region.wanted o (yielded ops f.tmps) = true then Oper.wp Tryd.prog o f w K Q else E := by
  rw [if_pos (by simp [Region.wanted, hgd])]
  refine wp_store_row t x y ho g _ hx hy t' _ hA (by rw [List.size_toArray, hl2]; exact hi) (by simp [hl, hl2]) (by rw [Array.all_eq_true_iff_forall_mem]; intro v hv; exact h1 v (by simpa using hv)) ?_
  exact h _ (setRow_heap _ _ _ _ _ _ hA) (grownBy_setRow w g _)
theorem SZ.rng {w : World} {b : Nat} {sv : Bool} {v1 v2 v3 v4 : Value} (h : SZ w b sv v1 v2 v3 v4) : w.rangeAt b 0 [.bool sv, v1, v2, v3, v4] := fun j v hv => by
  unfold SZ at h
  simp only [World.cell?, Nat.zero_add, h]
  simpa using hv
theorem iSide : (Tryd.prog.info? 24).map (·.size) = some 5 := by kernel_rfl
theorem iConf : (Tryd.prog.info? 28).map (·.size) = some 36 := by kernel_rfl
theorem cfc_one (sv : Bool) (v1 v2 v3 : SA) (rnd : List UInt8) : ∀ v ∈ cfc sv v1.v v2.v v3.v rnd, v.oneCell' = true := by
  intro v hv
  unfold cfc at hv
  rcases List.mem_append.1 hv with hv | hv
  · simp [SA.v] at hv; rcases hv with rfl | rfl | rfl | rfl <;> rfl
  · exact one_B _ v hv
theorem cfc_len {sv : Bool} {v1 v2 v3 : Value} {rnd : List UInt8} (hr : rnd.length = 32) : (cfc sv v1 v2 v3 rnd).length = 36 := by simp [cfc, hr]
end Go.Proofs.YtkhcpnmbhbhcgaaDoor

/- greet.New: the walk. -/
set_option maxRecDepth 100000
set_option linter.unusedVariables false
namespace Go.Proofs.YtkhcpnmbhbhcgaaDoor
open Go.RowKit Go.Joins
def AgC (server : Bool) (v1 v2 v3 : Value) (rnd : List UInt8) : Value := .agg (cfc server v1 v2 v3 rnd).toArray
set_option maxHeartbeats 4000000 in
theorem gnew_any (w : World) (server : Bool) {a1 a2 a3 : Option Addr} {n1 c1 n2 c2 n3 c3 : Nat} {id sec par rnd : List UInt8} (hid : BS w a1 n1 c1 id) (hsec : BS w a2 n2 c2 sec) (hpar : BS w a3 n3 c3 par) (hr : rnd.length = 32)
    (h1 : n1 ≤ 1000000) (h2 : n2 ≤ 1000000) (h3 : n3 ≤ 1000000) (hK : KT w) :
    Calls Tryd.prog 10 #[AgC server (.slice a1 n1 c1) (.slice a2 n2 c2) (.slice a3 n3 c3) rnd] w fun e w' => ∃ g role A, e = .returned (.pointer (some ⟨g, 0, none⟩)) ∧ GM w' role g (newM server rnd (id.take 64) sec (par.take 512)) A ∧ Below w.heap.size w w' ∧ (∀ k, k < w.heap.size → role k = 0) := by
  obtain ⟨m1, hm1⟩ : ∃ m, min n1 64 = m := ⟨_, rfl⟩
  obtain ⟨m3, hm3⟩ : ∃ m, min n3 512 = m := ⟨_, rfl⟩
  have e1 : id.take 64 = id.take m1 := by rw [← hm1, ← BS.len hid]; by_cases h : id.length ≤ 64; rw [List.take_of_length_le h, Nat.min_eq_left h, List.take_of_length_le (Nat.le_refl _)]; rw [Nat.min_eq_right (by omega)]
  have e3 : par.take 512 = par.take m3 := by rw [← hm3, ← BS.len hpar]; by_cases h : par.length ≤ 512; rw [List.take_of_length_le h, Nat.min_eq_left h, List.take_of_length_le (Nat.le_refl _)]; rw [Nat.min_eq_right (by omega)]
  rw [e1, e3]
  have hmin1 : min (n1 : Int) 64 = (m1 : Int) := by omega
  have hmin3 : min (n3 : Int) 512 = (m3 : Int) := by omega
  have hl1 := RS.le hid
  have hl3 := RS.le hpar
  have k1 : (m1 : Int) ≤ (c1 : Int) := by omega
  have k3 : (m3 : Int) ≤ (c3 : Int) := by omega
  have Hm := Lib.hid (show m1 ≤ n1 ∧ m1 ≤ 64 ∧ m3 ≤ n3 ∧ m3 ≤ 512 by omega)
  have HI := Lib.hid hid
  have HS := Lib.hid hsec
  have HP := Lib.hid hpar
  have HK := Lib.hid hK
  obtain ⟨C, hC⟩ : ∃ C, (cfc server (.slice a1 n1 c1) (.slice a2 n2 c2) (.slice a3 n3 c3) rnd).toArray = C := ⟨_, rfl⟩
  unfold AgC
  rw [hC]
  have HC := Lib.hid hC
  obtain ⟨b, hb⟩ : ∃ b, w.heap.size = b := ⟨_, rfl⟩
  have HB := Lib.hid hb
  clear hl1 hl3 hid hsec hpar hK hC hm1 hm3 e1 e3 hb
  go_enter Tryd.func10, Tryd.ntmps10
  go_upto_region 1 with (fail)
  obtain ⟨w1, hw1⟩ : ∃ x, w.alloc (.cells C 28) = x := ⟨_, rfl⟩
  have hcz : CZ w1 b server (.slice a1 n1 c1) (.slice a2 n2 c2) (.slice a3 n3 c3) rnd := by rw [← hw1, ← HC.out, ← HB.out]; exact heap_alloc_new w _
  have hB1 : Below b w w1 := by rw [← hw1, ← HB.out]; exact below_alloc w _
  have hBt : b ≤ w1.heap.size := Nat.le_of_lt hcz.lt
  rw [HB.out, hw1]
  clear hw1
  -- the name
  have q1 : w1.cell? ⟨b, 1, none⟩ = some (.slice a1 n1 c1) := hcz.at_ 1
  have hI1 : BS w1 a1 n1 c1 id := RS.below HI.out hB1 (by rw [HB.out]; exact Nat.le_refl _)
  have hb6 := (runK_h hI1 .i64 m1 Hm.out.1).1
  go_upto_region 2 with ((go_at_call 25; refine (clone_any w1 hb6 (by have := Hm.out; omega)).mono ?_; rintro x w2 ⟨a6, c6, rfl, o6, B6⟩; have q2 := (Below.cell B6 (p := ⟨b, 1, none⟩) hcz.lt).trans q1; have f2 := (hcz.bel B6).fr 1))
  have hcz2 := (hcz.bel B6).s1 (.slice a6 m1 c6)
  have hB2 := (hB1.trans (B6.mono hBt)).grown (grownBy_setCell w2 ⟨b, 1, none⟩ (.slice a6 m1 c6)) (Nat.le_trans hBt B6.size) (fun k hk => by cases hk; exact Nat.le_refl _)
  have o7 := OW.setOther o6 (ad := ⟨b, 1, none⟩) (fun x hx he => by have h1 := (o6.base_le hx).1; have h2 := hcz.lt; have he : x.block = b := he; omega) (.slice a6 m1 c6)
  have o8 := o7.mono hBt
  have hn8 : ∀ ad, a6 = some ad → ad.block ≠ b := fun ad ha he => by have h1 := (o6.base_le ha).1; have h2 := hcz.lt; omega
  obtain ⟨w3, hw3⟩ : ∃ x, w2.setCell ⟨b, 1, none⟩ (.slice a6 m1 c6) = x := ⟨_, rfl⟩
  rw [hw3] at hcz2 hB2 o8 ⊢
  clear hw3 o7 o6 B6 q1 q2 f2 hI1 hb6 hcz hB1
  -- the params
  have q3 : w3.cell? ⟨b, 3, none⟩ = some (.slice a3 n3 c3) := hcz2.at_ 3
  have hP3 : BS w3 a3 n3 c3 par := RS.below HP.out hB2 (by rw [HB.out]; exact Nat.le_refl _)
  have hb9 := (runK_h hP3 .i64 m3 Hm.out.2.2.1).1
  go_upto_region 3 with ((go_at_call 25; refine (clone_any w3 hb9 (by have := Hm.out; omega)).mono ?_; rintro x w4 ⟨a9, c9, rfl, o9, B9⟩; have q4 := (Below.cell B9 (p := ⟨b, 3, none⟩) hcz2.lt).trans q3; have f4 := (hcz2.bel B9).fr 3))
  have hBt3 := Nat.le_of_lt hcz2.lt
  have hcz4 := (hcz2.bel B9).s3 (.slice a9 m3 c9)
  have hB4 := (hB2.trans (B9.mono hBt3)).grown (grownBy_setCell w4 ⟨b, 3, none⟩ (.slice a9 m3 c9)) (Nat.le_trans hBt3 B9.size) (fun k hk => by cases hk; exact Nat.le_refl _)
  have o10 := (OW.setOther o9 (ad := ⟨b, 3, none⟩) (fun x hx he => by have h1 := (o9.base_le hx).1; have h2 := hcz2.lt; have he : x.block = b := he; omega) (.slice a9 m3 c9)).mono hBt3
  have o11 := OW.setOther (o8.below B9 (Nat.le_refl _)) (ad := ⟨b, 3, none⟩) (fun x hx he => hn8 x hx he) (.slice a9 m3 c9)
  have hn10 : ∀ ad, a9 = some ad → ad.block ≠ b := fun ad ha he => by have h1 := (o9.base_le ha).1; have h2 := hcz2.lt; omega
  obtain ⟨w5, hw5⟩ : ∃ x, w4.setCell ⟨b, 3, none⟩ (.slice a9 m3 c9) = x := ⟨_, rfl⟩
  rw [hw5] at hcz4 hB4 o10 o11 ⊢
  clear hw5 o9 B9 q3 q4 f4 hP3 hb9 hcz2 hB2 o8
  -- the secret
  have q5 : w5.cell? ⟨b, 2, none⟩ = some (.slice a2 n2 c2) := hcz4.at_ 2
  have hS5 : BS w5 a2 n2 c2 sec := RS.below HS.out hB4 (by rw [HB.out]; exact Nat.le_refl _)
  go_upto_region 4 with (go_at_call 25; refine (clone_any w5 hS5 (by omega)).mono ?_; rintro x w6 ⟨a12, c12, rfl, o12, B12⟩; have q6 := (Below.cell B12 (p := ⟨b, 2, none⟩) hcz4.lt).trans q5; have f6 := (hcz4.bel B12).fr 2)
  have hBt5 := Nat.le_of_lt hcz4.lt
  have hcz6 := (hcz4.bel B12).s2 (.slice a12 n2 c12)
  have hB6 := (hB4.trans (B12.mono hBt5)).grown (grownBy_setCell w6 ⟨b, 2, none⟩ (.slice a12 n2 c12)) (Nat.le_trans hBt5 B12.size) (fun k hk => by cases hk; exact Nat.le_refl _)
  have o13 := (OW.setOther o12 (ad := ⟨b, 2, none⟩) (fun x hx he => by have h1 := (o12.base_le hx).1; have h2 := hcz4.lt; have he : x.block = b := he; omega) (.slice a12 n2 c12)).mono hBt5
  have o14 := OW.setOther (o10.below B12 (Nat.le_refl _)) (ad := ⟨b, 2, none⟩) (fun x hx he => hn10 x hx he) (.slice a12 n2 c12)
  have o15 := OW.setOther (o11.below B12 (Nat.le_refl _)) (ad := ⟨b, 2, none⟩) (fun x hx he => hn8 x hx he) (.slice a12 n2 c12)
  obtain ⟨w7, hw7⟩ : ∃ x, w6.setCell ⟨b, 2, none⟩ (.slice a12 n2 c12) = x := ⟨_, rfl⟩
  rw [hw7] at hcz6 hB6 o13 o14 o15 ⊢
  clear hw7 o12 B12 q5 q6 f6 hS5 hcz4 hB4 o10 o11
  -- the machine
  have hC7 := Lib.hid hcz6
  have hrg : w7.rangeAt b 0 (cfc server (.slice a6 m1 c6) (.slice a12 n2 c12) (.slice a9 m3 c9) rnd) := fun j v hv => by rw [Nat.zero_add, hC7.out.at_]; exact hv
  have hci : (Tryd.prog.info? 28).map (·.size) = some (cfc server (.slice a6 m1 c6) (.slice a12 n2 c12) (.slice a9 m3 c9) rnd).length := by
    rw [show (cfc server (.slice a6 m1 c6) (.slice a12 n2 c12) (.slice a9 m3 c9) rnd).length = 36 by simp [cfc, hr]]; kernel_rfl
  have hO := Lib.hid (And.intro o13 (And.intro o14 o15))
  have HB7 := Lib.hid hB6
  have Hrg := Lib.hid hrg
  have Hci := Lib.hid hci
  have q7 : w7.cell? ⟨b, 0, none⟩ = some (.bool server) := hcz6.at_ 0
  have hbl : b < w7.heap.size := hcz6.lt
  clear hcz6 o13 o14 o15 hB6 hrg hci
  go_upto_region 5 with (first
    | (refine wpList_load_mid rfl _ _ rfl _ _ rfl _ _ Hrg.out Tryd.underlying28 rfl Hci.out ?_)
    | (refine L_build rfl _ _ rfl (by simpa [Act.eval, SA.v] using builtM (server := server) hr (id.take m1) sec (par.take m3) [(1, 0), (20, 1)] ⟨a6, m1, c6⟩ ⟨a12, n2, c12⟩ ⟨a9, m3, c9⟩ ⟨some ⟨w7.heap.size, 0, none⟩, 2, 2⟩) ?_))
  clear Hrg Hci
  obtain ⟨N, hN⟩ : ∃ N, w7.heap.size = N := ⟨_, rfl⟩
  obtain ⟨w8, hw8⟩ : ∃ x, w7.alloc (.cells #[.int .u8 1, .int .i64 0, .int .u8 20, .int .i64 1] 70) = x := ⟨_, rfl⟩
  rw [hw8, hN]
  rw [hN] at hbl
  have hs8 : w8.heap.size = N + 1 := by rw [← hw8, ← hN]; simp
  have g8 : w7.grownBy w8 none := by rw [← hw8]; exact World.grownBy_alloc w7 _ none
  have p8 : OW w8 b 70 2 (some ⟨N, 0, none⟩) 2 2 (tcells [(1, 0), (20, 1)]) := by
    rw [← hw8, ← hN]
    exact OW_made w7 b 70 2 #[.int .u8 1, .int .i64 0, .int .u8 20, .int .i64 1] 2 (by omega) rfl (by unfold maxLen; omega) (by simp [Value.oneCell'])
  obtain ⟨A, hA⟩ : ∃ A, AN ⟨a6, m1, c6⟩ ⟨a12, n2, c12⟩ ⟨a9, m3, c9⟩ ⟨some ⟨N, 0, none⟩, 2, 2⟩ = A := ⟨_, rfl⟩
  rw [hA]
  obtain ⟨w9, hw9⟩ : ∃ x, w8.alloc (.cells (mc (baseM server rnd (id.take m1) sec (par.take m3) [(1, 0), (20, 1)]) A).toArray 76) = x := ⟨_, rfl⟩
  rw [hw9]
  have hs9 : w9.heap.size = N + 2 := by rw [← hw9]; simp [hs8]
  have g9 : w8.grownBy w9 none := by rw [← hw9]; exact World.grownBy_alloc w8 _ none
  have hrow : MZ w9 (N + 1) (baseM server rnd (id.take m1) sec (par.take m3) [(1, 0), (20, 1)]) A := by
    unfold MZ
    rw [← hw9, ← hs8]; exact heap_alloc_new w8 _
  have hB9 : Below b w w9 := (HB7.out.grown g8 (by omega) (fun k hk => by cases hk)).grown g9 (by omega) (fun k hk => by cases hk)
  have gg := grown_trans g8 g9
  have i2 := OW.grown hO.out.1 gg (fun _ _ h => by cases h)
  have i3 := OW.grown hO.out.2.1 gg (fun _ _ h => by cases h)
  have i1 := OW.grown hO.out.2.2 gg (fun _ _ h => by cases h)
  have i4 := OW.grown p8 g9 (fun _ _ h => by cases h)
  have l1 : ∀ ad, a6 = some ad → ad.block < N := fun ad ha => by have := (hO.out.2.2.base_le ha).2; omega
  have l2 : ∀ ad, a12 = some ad → ad.block < N := fun ad ha => by have := (hO.out.1.base_le ha).2; omega
  have l3 : ∀ ad, a9 = some ad → ad.block < N := fun ad ha => by have := (hO.out.2.1.base_le ha).2; omega
  have q9 : w9.cell? ⟨b, 0, none⟩ = some (.bool server) := by
    rw [World.cell?_of_block (w := w7) (a := ⟨b, 0, none⟩) (gg.block b (by omega) (by simp))]; exact q7
  have HK9 := Lib.hid (HK.out.below hB9 (by rw [HB.out]; exact Nat.le_refl _))
  have HB9 := Lib.hid hB9
  have HI4 := Lib.hid (And.intro i1 (And.intro i2 (And.intro i3 i4)))
  have HL := Lib.hid (And.intro l1 (And.intro l2 l3))
  have Hrow := Lib.hid hrow
  have HA := Lib.hid hA
  have HS9 := Lib.hid hs9
  clear hw8 hw9 g8 g9 gg p8 i1 i2 i3 i4 l1 l2 l3 hrow hB9 q7 hN hA hs8 hs9 hO HB7 hC7
  cases server with
  | true =>
    go_wp2
    go_ret
    have hM := GM.first hr (by rw [HA.out]; exact Hrow.out) (by omega) HI4.out.1 HI4.out.2.1 HI4.out.2.2.1 HI4.out.2.2.2 (fun ad ha he => by have := HL.out.1 ad ha; omega) (fun ad ha he => by have := HL.out.2.1 ad ha; omega) (fun ad ha he => by have := HL.out.2.2 ad ha; omega) (fun ad ha he => by cases ha; simp at he)
    rw [HA.out] at hM
    exact ⟨N + 1, _, A, rfl, hM, by rw [HB.out]; exact HB9.out, fun k hk => by rw [HB.out] at hk; exact role0_low (by omega) k hk⟩
  | false =>
    have hrx : MZ (w9.alloc (.cells #[.int .u8 2, .int .i64 0, .int .u8 8, .int .i64 1, .int .u8 20, .int .i64 1] 70)) (N + 1) (baseM false rnd (id.take m1) sec (par.take m3) [(1, 0), (20, 1)]) A := Hrow.out.keep (Below.heap_alloc w9 (.cells #[.int .u8 2, .int .i64 0, .int .u8 8, .int .i64 1, .int .u8 20, .int .i64 1] 70) _ Hrow.out.lt)
    have q41 : (w9.alloc (.cells #[.int .u8 2, .int .i64 0, .int .u8 8, .int .i64 1, .int .u8 20, .int .i64 1] 70)).cell? ⟨N + 1, 41, none⟩ = some (.slice A.nx.a A.nx.n A.nx.c) := (hrx.cells (base_ok hr _ _ _ _)).g41
    have f41 := hrx.fr 41
    have Hrx := Lib.hid hrx
    clear hrx
    go_upto_region 7 with (fail)
    clear q41 f41
    have hr2 := Hrx.out.s_nx (base_ok hr _ _ _ _) (some ⟨w9.heap.size, 0, none⟩) 3 3 (baseM false rnd (id.take m1) sec (par.take m3) [(2, 0), (8, 1), (20, 1)]) rfl
    have p10 : OW (w9.alloc (.cells #[.int .u8 2, .int .i64 0, .int .u8 8, .int .i64 1, .int .u8 20, .int .i64 1] 70)) b 70 2 (some ⟨w9.heap.size, 0, none⟩) 3 3 (tcells [(2, 0), (8, 1), (20, 1)]) :=
      OW_made w9 b 70 2 #[.int .u8 2, .int .i64 0, .int .u8 8, .int .i64 1, .int .u8 20, .int .i64 1] 3 (by have := HS9.out; omega) rfl (by unfold maxLen; omega) (by simp [Value.oneCell'])
    have gx := World.grownBy_alloc w9 (.cells #[.int .u8 2, .int .i64 0, .int .u8 8, .int .i64 1, .int .u8 20, .int .i64 1] 70) none
    have gc := grownBy_setCell (w9.alloc (.cells #[.int .u8 2, .int .i64 0, .int .u8 8, .int .i64 1, .int .u8 20, .int .i64 1] 70)) ⟨N + 1, 41, none⟩ (.slice (some ⟨w9.heap.size, 0, none⟩) 3 3)
    have hB11 : Below b w (((w9.alloc (.cells #[.int .u8 2, .int .i64 0, .int .u8 8, .int .i64 1, .int .u8 20, .int .i64 1] 70))).setCell ⟨N + 1, 41, none⟩ (.slice (some ⟨w9.heap.size, 0, none⟩) 3 3)) := (HB9.out.alloc (by have := HS9.out; omega) (.cells #[.int .u8 2, .int .i64 0, .int .u8 8, .int .i64 1, .int .u8 20, .int .i64 1] 70)).grown gc (by have := HS9.out; simp; omega) (fun k hk => by cases hk; show b ≤ N + 1; omega)
    have hne : ∀ {a : Option Addr}, (∀ ad, a = some ad → ad.block < N) → ∀ ad, a = some ad → some ad.block ≠ some (N + 1) := fun h ad ha he => by have := h ad ha; injection he with he; omega
    have j1 := OW.grown (OW.grown HI4.out.1 gx (fun _ _ h => by cases h)) gc (hne HL.out.1)
    have j2 := OW.grown (OW.grown HI4.out.2.1 gx (fun _ _ h => by cases h)) gc (hne HL.out.2.1)
    have j3 := OW.grown (OW.grown HI4.out.2.2.1 gx (fun _ _ h => by cases h)) gc (hne HL.out.2.2)
    have j4 := OW.grown p10 gc (fun ad ha he => by cases ha; have := HS9.out; injection he with he; simp at he; omega)
    have hAx : ({ A with nx := ⟨some ⟨w9.heap.size, 0, none⟩, 3, 3⟩ } : MA) = AN ⟨a6, m1, c6⟩ ⟨a12, n2, c12⟩ ⟨a9, m3, c9⟩ ⟨some ⟨w9.heap.size, 0, none⟩, 3, 3⟩ := by rw [← HA.out]; rfl
    rw [hAx] at hr2
    have hM := GM.first hr hr2 (by omega) j1 j2 j3 j4 (fun ad ha he => by have := HL.out.1 ad ha; omega) (fun ad ha he => by have := HL.out.2.1 ad ha; omega) (fun ad ha he => by have := HL.out.2.2 ad ha; omega) (fun ad ha he => by cases ha; have := HS9.out; simp at he; omega)
    obtain ⟨w11, hw11⟩ : ∃ x, (w9.alloc (.cells #[.int .u8 2, .int .i64 0, .int .u8 8, .int .i64 1, .int .u8 20, .int .i64 1] 70)).setCell ⟨N + 1, 41, none⟩ (.slice (some ⟨w9.heap.size, 0, none⟩) 3 3) = x := ⟨_, rfl⟩
    rw [hw11] at hM hB11 ⊢
    obtain ⟨A2, hA2⟩ : ∃ A2, AN ⟨a6, m1, c6⟩ ⟨a12, n2, c12⟩ ⟨a9, m3, c9⟩ ⟨some ⟨w9.heap.size, 0, none⟩, 3, 3⟩ = A2 := ⟨_, rfl⟩
    rw [hA2] at hM
    obtain ⟨N9, hN9⟩ : ∃ x, w9.heap.size = x := ⟨_, rfl⟩
    rw [hN9]
    have hsl : sec.length = n2 := BS.len HS.out
    have hil : (id.take m1).length ≤ 600 := by rw [List.length_take]; have := Hm.out; omega
    have hpl : (par.take m3).length ≤ 600 := by rw [List.length_take]; have := Hm.out; omega
    have hh := ghello_any w11 hM (Nat.zero_le _) (Nat.zero_le _) (by show sec.length ≤ _; omega) hil hpl (HK.out.below hB11 (by rw [HB.out]; exact Nat.le_refl _))
    have HH := Lib.hid hh
    have HB11 := Lib.hid hB11
    have HT := Lib.hid hM.gp.top
    clear hh hB11 hM j1 j2 j3 j4 hne gc gx p10 hr2 hAx hw11 hA2 hN9
    go_wp2_with (go_at_call 26; refine HH.out.mono ?_; rintro x w12 ⟨rfl, role12, A12, hm12, hk12⟩; have HM12 := Lib.hid hm12; have HK12 := Lib.hid hk12; clear hm12 hk12)
    go_ret
    have hk := HK12.out
    have hb11 := HB11.out
    have hbs : b ≤ w11.heap.size := by have := hb11.size; rw [← HB.out]; exact this
    refine ⟨N + 1, role12, A12, rfl, HM12.out, ?_, fun k hk2 => ?_⟩
    · rw [HB.out]
      exact ⟨hk.os.trans hb11.os, hk.tape.trans hb11.tape, hk.output.trans hb11.output, Nat.le_trans hb11.size hk.size, fun k hk2 => (hk.blk k (by omega) (role0_low (by omega) k hk2)).1.trans (hb11.block k hk2)⟩
    · rw [HB.out] at hk2
      exact (hk.blk k (by omega) (role0_low (by omega) k hk2)).2
end Go.Proofs.YtkhcpnmbhbhcgaaDoor

/- law13.awake: two sides that share a name and a secret meet. -/
set_option maxRecDepth 100000
set_option linter.unusedVariables false
namespace Go.Proofs.YtkhcpnmbhbhcgaaDoor
open Go.RowKit Go.Joins
theorem CZ.s0 {w : World} {b : Nat} {server : Bool} {v1 v2 v3 : Value} {rnd : List UInt8} (h : CZ w b server v1 v2 v3 rnd) (x : Bool) : CZ (w.setCell ⟨b, 0, none⟩ (.bool x)) b x v1 v2 v3 rnd := by
  unfold CZ at h ⊢; simp [World.setCell, Array.getElem?_modify, h, cfc]
theorem CZ.rng {w : World} {b : Nat} {server : Bool} {v1 v2 v3 : Value} {rnd : List UInt8} (h : CZ w b server v1 v2 v3 rnd) : w.rangeAt b 0 (cfc server v1 v2 v3 rnd) := fun j v hv => by rw [Nat.zero_add, h.at_]; exact hv
theorem cfc_sz {server : Bool} {v1 v2 v3 : Value} {rnd : List UInt8} (hr : rnd.length = 32) : (Tryd.prog.info? 28).map (·.size) = some (cfc server v1 v2 v3 rnd).length := by
  rw [show (cfc server v1 v2 v3 rnd).length = 36 by simp [cfc, hr]]; kernel_rfl
theorem out_one {w' : World} {role' r0 : Nat → Nat} {N l c : Nat} {b : List UInt8} {a : Option Addr} {cs : List Value} (hO : OW w' N 36 2 a 1 c cs) (hP : PcOf w' role' N r0 [(l, b)] cs) :
    ∃ pb ad n cc, a = some ⟨pb, 0, none⟩ ∧ N ≤ pb ∧ pb < w'.heap.size ∧ w'.cell? ⟨pb, 0, none⟩ = some (.int .i64 (l : Int)) ∧ w'.cell? ⟨pb, 1, none⟩ = some (.slice ad n cc) ∧ BS w' ad n cc b ∧ RB role' 0 ad ∧ (∀ x, ad = some x → x.block < N ∧ r0 x.block ≠ 0) := by
  rcases hO.shape with ⟨_, h, _⟩ | ⟨pb, cur, rfl, h1, h2, _⟩
  · cases h
  · obtain ⟨ad, n, cc, cs', rfl, hb, hr, hl, hn⟩ := hP
    obtain ⟨q0, q1⟩ := pcs_cells (J := 0) hO.rs rfl
    exact ⟨pb, ad, n, cc, rfl, h1, h2, q0, q1, hb, hr, hl⟩
theorem out_two {w' : World} {role' r0 : Nat → Nat} {N l c l2 : Nat} {b b2 : List UInt8} {a : Option Addr} {cs : List Value} (hO : OW w' N 36 2 a 2 c cs) (hP : PcOf w' role' N r0 [(l, b), (l2, b2)] cs) :
    ∃ pb ad n cc ad2 n2 cc2, a = some ⟨pb, 0, none⟩ ∧ N ≤ pb ∧ pb < w'.heap.size ∧ w'.cell? ⟨pb, 0, none⟩ = some (.int .i64 (l : Int)) ∧ w'.cell? ⟨pb, 1, none⟩ = some (.slice ad n cc) ∧ w'.cell? ⟨pb, 2, none⟩ = some (.int .i64 (l2 : Int)) ∧ w'.cell? ⟨pb, 3, none⟩ = some (.slice ad2 n2 cc2) ∧
      BS w' ad n cc b ∧ RB role' 0 ad ∧ (∀ x, ad = some x → x.block < N ∧ r0 x.block ≠ 0) ∧ BS w' ad2 n2 cc2 b2 ∧ RB role' 0 ad2 ∧ (∀ x, ad2 = some x → x.block < N ∧ r0 x.block ≠ 0) := by
  rcases hO.shape with ⟨_, h, _⟩ | ⟨pb, cur, rfl, h1, h2, _⟩
  · cases h
  · obtain ⟨ad, n, cc, cs', rfl, hb, hr, hl, ad2, n2, cc2, cs2, rfl, hb2, hr2, hl2, hn⟩ := hP
    obtain ⟨q0, q1⟩ := pcs_cells (J := 0) hO.rs rfl
    obtain ⟨q2, q3⟩ := pcs_cells (J := 2) hO.rs rfl
    exact ⟨pb, ad, n, cc, ad2, n2, cc2, rfl, h1, h2, q0, q1, q2, q3, hb, hr, hl, hb2, hr2, hl2⟩
theorem heap_alloc_at (w : World) (o : Obj) {k : Nat} (h : k = w.heap.size) : (w.alloc o).heap[k]? = some o := by subst h; exact heap_alloc_new w o
theorem cfc_all {x : Array Value} {sv : Bool} {v1 v2 v3 : SA} {rnd : List UInt8} (h : (cfc sv v1.v v2.v v3.v rnd).toArray = x) : x.all (·.oneCell') = true := by
  rw [← h, Array.all_eq_true_iff_forall_mem]; intro v hv; exact cfc_one sv v1 v2 v3 rnd v (by simpa using hv)
set_option maxHeartbeats 4000000 in
theorem awake13_any (w : World) (hK : KT w) :
    Calls Tryd.prog 8 #[] w fun e w' => e = .returned (.bool true) ∧ Below w.heap.size w w' := by
  have HK := Lib.hid hK
  clear hK
  have v1 := run_convert_bytes_const_at (P := Tryd.prog) w 22 5 #[.int .u8 105] 1 1 w.heap.size rfl Tryd.underlying22 Tryd.underlying5
  have v2 := run_convert_bytes_const_at (P := Tryd.prog) (w.alloc (.cells #[.int .u8 105] 5 (1, 2))) 22 5 #[.int .u8 115] 1 1 (w.heap.size + 1) (by simp) Tryd.underlying22 Tryd.underlying5
  go_enter Tryd.func8, Tryd.ntmps8
  go_upto_region 2 with (refine wpList_store_row rfl 28 _ _ rfl _ _ rfl rfl 28 _ (heap_alloc_at _ _ (by simp)) iConf rfl (cfc_all (v1 := ⟨some ⟨w.heap.size, 0, none⟩, 1, 1⟩) (v2 := ⟨some ⟨w.heap.size + 1, 0, none⟩, 1, 1⟩) (v3 := ⟨none, 0, 0⟩) (sv := false) (rnd := z32) rfl) ?_)
  clear v1 v2
  have hw1 : BS ((w.alloc (.cells #[.int .u8 105] 5 (1, 2))).alloc (.cells #[.int .u8 115] 5 (1, 2))) (some ⟨w.heap.size, 0, none⟩) 1 1 [105] := RS.alloc (BS_lit w [105] _ _ rfl 1 rfl (by omega) rfl) _
  have hw2 : BS ((w.alloc (.cells #[.int .u8 105] 5 (1, 2))).alloc (.cells #[.int .u8 115] 5 (1, 2))) (some ⟨w.heap.size + 1, 0, none⟩) 1 1 [115] := BS_lit _ [115] _ _ rfl 1 rfl (by omega) (by simp)
  have hb2 : Below w.heap.size w ((w.alloc (.cells #[.int .u8 105] 5 (1, 2))).alloc (.cells #[.int .u8 115] 5 (1, 2))) := (below_alloc w _).alloc (by simp) _
  obtain ⟨C, hC⟩ : ∃ C, (#[.bool false, .slice (some ⟨w.heap.size, 0, none⟩) 1 1, .slice (some ⟨w.heap.size + 1, 0, none⟩) 1 1, .slice none 0 0, .int .u8 0, .int .u8 0, .int .u8 0, .int .u8 0, .int .u8 0, .int .u8 0, .int .u8 0, .int .u8 0, .int .u8 0, .int .u8 0, .int .u8 0, .int .u8 0, .int .u8 0, .int .u8 0, .int .u8 0, .int .u8 0, .int .u8 0, .int .u8 0, .int .u8 0, .int .u8 0, .int .u8 0, .int .u8 0, .int .u8 0, .int .u8 0, .int .u8 0, .int .u8 0, .int .u8 0, .int .u8 0, .int .u8 0, .int .u8 0, .int .u8 0, .int .u8 0] : Array Value) = C := ⟨_, rfl⟩
  rw [hC]
  have hCc : (cfc false (.slice (some ⟨w.heap.size, 0, none⟩) 1 1) (.slice (some ⟨w.heap.size + 1, 0, none⟩) 1 1) (.slice none 0 0) z32).toArray = C := by rw [← hC]; rfl
  obtain ⟨w2, hw⟩ : ∃ x, (w.alloc (.cells #[.int .u8 105] 5 (1, 2))).alloc (.cells #[.int .u8 115] 5 (1, 2)) = x := ⟨_, rfl⟩
  have hs2 : w2.heap.size = w.heap.size + 1 + 1 := by rw [← hw]; simp
  rw [hw] at hw1 hw2 hb2 ⊢
  obtain ⟨idl, hidl⟩ : ∃ x, ([105] : List UInt8) = x := ⟨_, rfl⟩
  obtain ⟨sel, hsel⟩ : ∃ x, ([115] : List UInt8) = x := ⟨_, rfl⟩
  have hil : idl.length ≤ 64 := by rw [← hidl]; decide
  have hsll : sel.length ≤ 1000 := by rw [← hsel]; decide
  rw [hidl] at hw1
  rw [hsel] at hw2
  clear hidl hsel
  obtain ⟨b, hb⟩ : ∃ b, w.heap.size + 1 + 1 = b := ⟨_, rfl⟩
  rw [hb] at hs2 ⊢
  obtain ⟨vi, hvi⟩ : ∃ v, Value.slice (some ⟨w.heap.size, 0, none⟩) 1 1 = v := ⟨_, rfl⟩
  obtain ⟨vs, hvs⟩ : ∃ v, Value.slice (some ⟨w.heap.size + 1, 0, none⟩) 1 1 = v := ⟨_, rfl⟩
  obtain ⟨Z, hZ⟩ : ∃ Z, (#[.bool false, .slice none 0 0, .slice none 0 0, .slice none 0 0, .int .u8 0, .int .u8 0, .int .u8 0, .int .u8 0, .int .u8 0, .int .u8 0, .int .u8 0, .int .u8 0, .int .u8 0, .int .u8 0, .int .u8 0, .int .u8 0, .int .u8 0, .int .u8 0, .int .u8 0, .int .u8 0, .int .u8 0, .int .u8 0, .int .u8 0, .int .u8 0, .int .u8 0, .int .u8 0, .int .u8 0, .int .u8 0, .int .u8 0, .int .u8 0, .int .u8 0, .int .u8 0, .int .u8 0, .int .u8 0, .int .u8 0, .int .u8 0] : Array Value) = Z := ⟨_, rfl⟩
  rw [hZ]
  have hrow := setRow_heap (w2.alloc (.cells Z 28)) b _ C _ _ (heap_alloc_at w2 (.cells Z 28) hs2.symm)
  have hgr := grownBy_setRow (w2.alloc (.cells Z 28)) b C
  have hcz : CZ ((w2.alloc (.cells Z 28)).setRow b C) b false vi vs (.slice none 0 0) z32 := by unfold CZ; rw [← hvi, ← hvs, hCc]; exact hrow
  have hb3 : Below w.heap.size w ((w2.alloc (.cells Z 28)).setRow b C) := (hb2.alloc (by omega) _).grown hgr (by simp; omega) (fun k hk => by cases hk; omega)
  have hi3 := RS.grown (RS.alloc hw1 (.cells Z 28)) hgr (fun ad ha he => by cases ha; injection he with he; have he : w.heap.size = b := he; omega)
  have hs3 := RS.grown (RS.alloc hw2 (.cells Z 28)) hgr (fun ad ha he => by cases ha; injection he with he; have he : w.heap.size + 1 = b := he; omega)
  obtain ⟨W, hW⟩ : ∃ x, (w2.alloc (.cells Z 28)).setRow b C = x := ⟨_, rfl⟩
  rw [hW] at hcz hb3 hi3 hs3 ⊢
  have hbW := hcz.lt
  have hKW := HK.out.below hb3 (Nat.le_refl _)
  have hnew := gnew_any W false hi3 hs3 (show BS W none 0 0 [] from RS_nil W 1) z32_len (by omega) (by omega) (by omega) hKW
  unfold AgC at hnew
  rw [hvi, hvs] at hnew
  rw [hvi, hvs]
  have Hnew := Lib.hid hnew
  have HZ := Lib.hid hcz
  have HI := Lib.hid hi3
  have HS := Lib.hid hs3
  have HB := Lib.hid hb3
  have HKW := Lib.hid hKW
  have Hv := Lib.hid (And.intro hvi hvs)
  have hlow : w.heap.size + 1 < b := by omega
  have Hrg := Lib.hid hcz.rng
  have Hci := Lib.hid (cfc_sz (server := false) (v1 := vi) (v2 := vs) (v3 := .slice none 0 0) z32_len)
  have Hc2 := Lib.hid (cfc_sz (server := true) (v1 := vi) (v2 := vs) (v3 := .slice none 0 0) z32_len)
  clear hnew hcz hi3 hs3 hb3 hKW hvi hvs hW hb hw hw1 hw2 hb2 hC hCc hs2 hrow hgr hZ
  go_upto_region 3 with (first
    | (refine wpList_load_mid rfl _ _ rfl _ _ rfl _ _ Hrg.out Tryd.underlying28 rfl Hci.out ?_)
    | (go_at_call 10; refine Hnew.out.mono ?_; rintro x w3 ⟨g1, r1, A1, rfl, hm1, hb1, hz1⟩))
  rw [List.take_of_length_le hil, show (([] : List UInt8)).take 512 = [] from rfl, new_cl] at hm1
  have hcz3 := HZ.out.bel hb1
  have q0 : w3.cell? ⟨b, 0, none⟩ = some (.bool false) := hcz3.at_ 0
  have f0 := hcz3.fr 0
  have HM1 := Lib.hid hm1
  have HB1 := Lib.hid hb1
  have Hz1 := Lib.hid hz1
  have HZ3 := Lib.hid hcz3
  clear hm1 hb1 hz1 hcz3 Hnew
  go_upto_region 4 with (fail)
  clear q0 f0
  have hz4 := HZ3.out.s0 true
  have gc := grownBy_setCell w3 ⟨b, 0, none⟩ (.bool true)
  have hb4 := (HB.out.trans (HB1.out.mono HB.out.size)).grown gc (by have := HB.out.size; have := HB1.out.size; omega) (fun k hk => by cases hk; show w.heap.size ≤ b; omega)
  have hm4 := HM1.out.kept (w' := w3.setCell ⟨b, 0, none⟩ (.bool true)) (by simp [World.setCell]) (fun k hl hk => gc.block k hl (fun he => by injection he with he; have he : k = b := he; rw [he] at hk; exact hk (Hz1.out b hbW)))
  obtain ⟨w4, hw4⟩ : ∃ x, w3.setCell ⟨b, 0, none⟩ (.bool true) = x := ⟨_, rfl⟩
  rw [hw4] at hz4 hb4 hm4 ⊢
  have hbb4 : Below b W w4 := by
    rw [← hw4]
    exact (HB1.out.mono (Nat.le_of_lt hbW)).grown gc (Nat.le_trans (Nat.le_of_lt hbW) HB1.out.size) (fun k hk => by cases hk; exact Nat.le_refl _)
  have hi4 : BS w4 (some ⟨w.heap.size, 0, none⟩) 1 1 idl := RS.belowAt HI.out hbb4 (by show w.heap.size < b; omega)
  have hs4 : BS w4 (some ⟨w.heap.size + 1, 0, none⟩) 1 1 sel := RS.belowAt HS.out hbb4 (by show w.heap.size + 1 < b; omega)
  have hk4 := HK.out.below hb4 (Nat.le_refl _)
  have hnew := gnew_any w4 true hi4 hs4 (show BS w4 none 0 0 [] from RS_nil w4 1) z32_len (by omega) (by omega) (by omega) hk4
  unfold AgC at hnew
  rw [Hv.out.1, Hv.out.2] at hnew
  have Hnew := Lib.hid hnew
  have HZ4 := Lib.hid hz4.rng
  have HM4 := Lib.hid hm4
  have HB4 := Lib.hid hb4
  have HK4 := Lib.hid hk4
  have Hsz := Lib.hid (show W.heap.size ≤ w4.heap.size by rw [← hw4]; simpa [World.setCell] using HB1.out.size)
  clear hnew hz4 hm4 hb4 hk4 hi4 hs4 hbb4 hw4 gc Hrg
  go_upto_region 5 with (first
    | (refine wpList_load_mid rfl _ _ rfl _ _ rfl _ _ HZ4.out Tryd.underlying28 rfl Hc2.out ?_)
    | (go_at_call 10; refine Hnew.out.mono ?_; rintro x w5 ⟨g2, r2, A2, rfl, hm2, hb5, hz2⟩))
  rw [List.take_of_length_le hil, show (([] : List UInt8)).take 512 = [] from rfl] at hm2
  have hT : TM w5 r1 r2 g1 g2 (cl0 z32 idl sel []) (newM true z32 idl sel []) A1 A2 := by
    refine ⟨HM4.out.below hb5, hm2, fun k => ?_, Hz1.out _ HKW.out.lt, hz2 _ HK4.out.lt, HK4.out.below hb5 (Nat.le_refl _)⟩
    by_cases hk : k < w4.heap.size
    · exact .inr (hz2 k hk)
    · exact .inl (HM4.out.gp.top k (by omega))
  have hB5 : Below w.heap.size w w5 := HB4.out.trans (hb5.mono HB4.out.size)
  have zr1 : ∀ k, k < w.heap.size → r1 k = 0 := fun k hk => Hz1.out k (by have := HB.out.size; omega)
  have zr2 : ∀ k, k < w.heap.size → r2 k = 0 := fun k hk => hz2 k (by have := HB4.out.size; omega)
  have HT := Lib.hid hT
  have HB5 := Lib.hid hB5
  have HZr := Lib.hid (And.intro zr1 zr2)
  clear hm2 hb5 hz2 hT hB5 zr1 zr2 Hnew HZ4 HM4 HB4 HK4 Hsz HM1 HB1 Hz1 HZ3 HZ HI HS HB HKW Hv Hci Hc2 hbW hlow
  -- the client's first word
  have hout := gout_any w5 HT.out.a
  rw [show (outM (cl0 z32 idl sel [])).2.length = 1 by rw [out_cl0]; rfl, out_cl0] at hout
  have Hout := Lib.hid hout
  clear hout
  go_upto_region 6 with (go_at_call 11; refine Hout.out.mono ?_; rintro x w6 ⟨pa, pc, cs, r6, A6, rfl, hm6, hk6, hO6, hP6, hz6⟩)
  obtain ⟨t6, k6⟩ := HT.out.step1 hm6 hk6
  have hP6' := PcOf.to HT.out.dis hP6
  obtain ⟨pb, ad, n, cc, rfl, hlo, hhi, q0, q1, hbs, hrb, hla⟩ := out_one hO6 hP6'
  have q0 : w6.cell? ⟨pb, 0, none⟩ = some (.int .i64 0) := q0
  have hpz2 : r2 pb = 0 := HT.out.b.gp.top pb hlo
  obtain ⟨t6d, k6d⟩ := t6.bel ((Below.refl _ w6).drew)
  have hbsd : BS w6.drew ad n cc (hH z32 idl sel []) := hbs.drew
  have bn := new_bn (rA := z32) (id := idl) (sec := sel) (pA := []) true z32_len hil (by simp) (by omega)
  have hnl := BS.len hbs
  have hHl : (hH z32 idl sel []).length ≤ 1000 := by
    have := hP_len (rA := z32) (id := idl) (pA := []) z32_len hil (by simp)
    unfold hH
    rw [gmsg_len, hB_len]; omega
  have hhear := ghear_any w6.drew t6d.b hbsd (by have := bn.said; omega) (by have := bn.o0; omega) (by have := bn.o1; omega) (by have := bn.sec; omega) bn.par (by have := bn.i0; omega) (by have := bn.i1; omega) t6d.kt t6d.z2 0
  rw [sv_1 z32_len hil (by simp)] at hhear
  have hhear : Calls Tryd.prog 12 #[.pointer (some ⟨g2, 0, none⟩), .int .i64 0, .slice ad n cc] w6.drew fun e w' => e = .returned (.int .u64 0) ∧ ∃ role' A', GM w' role' g2 (sv1 z32 z32 idl sel [] []) A' ∧ Kpt w6.drew w' r2 role' := hhear
  have Hhear := Lib.hid hhear
  have T6 := Lib.hid t6d
  have K6 := Lib.hid (k6.trans k6d)
  have Q6 := Lib.hid (And.intro q0 q1)
  have hhi' : pb < w6.drew.heap.size := hhi
  have Hp := Lib.hid (And.intro hlo (And.intro hpz2 hhi'))
  clear hm6 hk6 hO6 hP6 hz6 hP6' t6 k6 t6d k6d hbs hrb hla hbsd bn hhear Hout hHl hnl hhi' hlo hpz2 hhi
  go_region_held3 (fun w' => w'.cell? ⟨pb, 0, none⟩ = some (.int .i64 0) ∧ w'.cell? ⟨pb, 1, none⟩ = some (.slice ad n cc))
    (first | exact k1 | go_keep)
    ((go_at_call 12; (with_reducible refine Hhear.out.mono ?_); rintro x w7 ⟨rfl, r7, A7, hm7, hk7⟩; have k1 : w7.cell? ⟨pb, 0, none⟩ = some (.int .i64 0) ∧ w7.cell? ⟨pb, 1, none⟩ = some (.slice ad n cc) := ⟨(World.cell?_of_block (w := w6.drew) (a := ⟨pb, 0, none⟩) (hk7.blk pb Hp.out.2.2 Hp.out.2.1).1).trans Q6.out.1, (World.cell?_of_block (w := w6.drew) (a := ⟨pb, 1, none⟩) (hk7.blk pb Hp.out.2.2 Hp.out.2.1).1).trans Q6.out.2⟩))
  clear q0 q1 k1
  obtain ⟨t7, k7⟩ := T6.out.step2 hm7 hk7
  have K7 := Lib.hid (K6.out.trans k7)
  have T7 := Lib.hid t7
  clear hm7 hk7 t7 k7 Hhear T6 K6 Q6 Hp
  -- the server's words
  have hout := gout_any w7 T7.out.b
  rw [show (outM (sv1 z32 z32 idl sel [] [])).2.length = 2 by rw [out_sv1]; rfl, out_sv1] at hout
  have Hout := Lib.hid hout
  clear hout
  go_upto_region 9 with (go_at_call 11; refine Hout.out.mono ?_; rintro x w8 ⟨pa8, pc8, cs8, r8, A8, rfl, hm8, hk8, hO8, hP8, hz8⟩)
  obtain ⟨t8, k8⟩ := T7.out.step2 hm8 hk8
  have hP8' := PcOf.to (fun k => (T7.out.dis k).symm) hP8
  obtain ⟨pb8, ad, n, cc, ad2, n2, cc2, rfl, hlo, hhi, q0, q1, q2, q3, hbs, hrb, hla, hbs2, hrb2, hla2⟩ := out_two hO8 hP8'
  have q0 : w8.cell? ⟨pb8, 0, none⟩ = some (.int .i64 0) := q0
  have q2 : w8.cell? ⟨pb8, 2, none⟩ = some (.int .i64 1) := q2
  have hpz : r6 pb8 = 0 := T7.out.a.gp.top pb8 hlo
  obtain ⟨t8d, k8d⟩ := t8.bel ((Below.refl _ w8).drew)
  have bn1 := (new_bn (rA := z32) (id := idl) (sec := sel) (pA := []) false z32_len hil (by simp) (by omega)).out
  rw [new_cl, out_cl0] at bn1
  have bn1 : Bn (cl1 z32 idl sel []) 4000000000 0 := bn1
  have bn2 := bn1.hear 0 (gmsg 2 z32)
  rw [cl_1 z32_len] at bn2
  have hg2 : (gmsg 2 z32).length = 36 := by rw [gmsg_len, z32_len]
  rw [hg2] at bn2
  have hnl := BS.len hbs
  have hnl2 := BS.len hbs2
  have hg8 : (gmsg 8 (textS []) ++ gmsg 20 (hF1 z32 z32 idl sel [] [])).length ≤ 1000 := by
    rw [List.length_append, gmsg_len, gmsg_len, textS_len, show (hF1 z32 z32 idl sel [] []).length = 32 from fmF_len _ _]; simp [vsz]
  have h1 := ghear_any w8.drew t8d.a (show BS w8.drew ad n cc (gmsg 2 z32) from hbs.drew) (by have := bn1.said; omega) (by have := bn1.o0; omega) (by have := bn1.o1; omega) (by have := bn1.sec; omega) bn1.par (by have := bn1.i0; omega) (by have := bn1.i1; omega) t8d.kt t8d.z1 0
  rw [cl_1 z32_len] at h1
  have h1 : Calls Tryd.prog 12 #[.pointer (some ⟨g1, 0, none⟩), .int .i64 0, .slice ad n cc] w8.drew fun e w' => e = .returned (.int .u64 0) ∧ ∃ role' A', GM w' role' g1 (cl2 z32 z32 idl sel []) A' ∧ Kpt w8.drew w' r6 role' := h1
  have h2 : ∀ (w9 : World) (r9 : Nat → Nat) (A9 : MA), GM w9 r9 g1 (cl2 z32 z32 idl sel []) A9 → Kpt w8.drew w9 r6 r9 → Calls Tryd.prog 12 #[.pointer (some ⟨g1, 0, none⟩), .int .i64 1, .slice ad2 n2 cc2] w9 fun e w' => e = .returned (.int .u64 0) ∧ ∃ role' A', GM w' role' g1 (cl3 z32 z32 idl sel [] []) A' ∧ Kpt w9 w' r9 role' := by
    intro w9 r9 A9 hm9 hk9
    have hb9 : BS w9 ad2 n2 cc2 _ := RS.keepb hbs2.drew (fun a ha hl => (hk9.blk _ hl (hrb2 a ha)).1)
    have h := ghear_any w9 hm9 hb9 (by have := bn2.said; omega) (by have := bn2.o0; omega) (by have := bn2.o1; omega) (by have := bn2.sec; omega) bn2.par (by have := bn2.i0; omega) (by have := bn2.i1; omega) (t8d.kt.kpt hk9 t8d.z1) (hk9.blk _ t8d.kt.lt t8d.z1).2 1
    rw [cl_2 (by simp)] at h
    exact h
  have H1 := Lib.hid h1
  have H2 := Lib.hid h2
  have T8 := Lib.hid t8d
  have K8 := Lib.hid ((K7.out.trans k8).trans k8d)
  have Q8 := Lib.hid (show w8.drew.cell? ⟨pb8, 0, none⟩ = some (.int .i64 0) ∧ w8.drew.cell? ⟨pb8, 1, none⟩ = some (.slice ad n cc) ∧ w8.drew.cell? ⟨pb8, 2, none⟩ = some (.int .i64 1) ∧ w8.drew.cell? ⟨pb8, 3, none⟩ = some (.slice ad2 n2 cc2) from ⟨q0, q1, q2, q3⟩)
  have hhi' : pb8 < w8.drew.heap.size := hhi
  have Hp := Lib.hid (And.intro hpz hhi')
  have Hkc : Hid (∀ w9 r9, Kpt w8.drew w9 r6 r9 → w9.cell? ⟨pb8, 0, none⟩ = some (.int .i64 0) ∧ w9.cell? ⟨pb8, 1, none⟩ = some (.slice ad n cc) ∧ w9.cell? ⟨pb8, 2, none⟩ = some (.int .i64 1) ∧ w9.cell? ⟨pb8, 3, none⟩ = some (.slice ad2 n2 cc2)) := Lib.hid (fun w9 r9 hk => by
    have e : ∀ i, w9.cell? ⟨pb8, i, none⟩ = w8.drew.cell? ⟨pb8, i, none⟩ := fun i => World.cell?_of_block (w := w8.drew) (a := ⟨pb8, i, none⟩) (hk.blk pb8 Hp.out.2 Hp.out.1).1
    exact ⟨(e 0).trans Q8.out.1, (e 1).trans Q8.out.2.1, (e 2).trans Q8.out.2.2.1, (e 3).trans Q8.out.2.2.2⟩)
  clear hm8 hk8 hO8 hP8 hz8 hP8' t8 k8 t8d k8d hbs hrb hla hbs2 hrb2 hla2 bn1 bn2 h1 h2 hnl hnl2 hg2 hg8 hhi' hlo hpz hhi Hout
  go_region_held3 (fun w' => w'.cell? ⟨pb8, 0, none⟩ = some (.int .i64 0) ∧ w'.cell? ⟨pb8, 1, none⟩ = some (.slice ad n cc) ∧ w'.cell? ⟨pb8, 2, none⟩ = some (.int .i64 1) ∧ w'.cell? ⟨pb8, 3, none⟩ = some (.slice ad2 n2 cc2))
    (first | exact k2 | exact k1 | go_keep)
    (first
    | (go_at_call 12; (with_reducible refine H1.out.mono ?_); rintro x w9 ⟨rfl, r9, A9, hm9, hk9⟩; have h2 := H2.out w9 r9 A9 hm9 hk9; have k1 := Hkc.out w9 r9 hk9)
    | (go_at_call 12; (with_reducible refine h2.mono ?_); rintro x w10 ⟨rfl, r10, A10, hm10, hk10⟩; have k2 := Hkc.out w10 r10 (hk9.trans hk10)))
  clear q0 q1 q2 q3 k1 k2 h2
  obtain ⟨t10, k10⟩ := T8.out.step1 hm10 (hk9.trans hk10)
  have K10 := Lib.hid (K8.out.trans k10)
  have T10 := Lib.hid t10
  clear hm9 hk9 hm10 hk10 t10 k10 H1 H2 T8 K8 Q8 Hp Hkc
  -- the client's last word
  have hout := gout_any w10 T10.out.a
  rw [show (outM (cl3 z32 z32 idl sel [] [])).2.length = 1 by rw [out_cl3]; rfl, out_cl3] at hout
  have Hout := Lib.hid hout
  clear hout
  go_upto_region 12 with (go_at_call 11; refine Hout.out.mono ?_; rintro x w11 ⟨pa11, pc11, cs11, r11, A11, rfl, hm11, hk11, hO11, hP11, hz11⟩)
  obtain ⟨t11, k11⟩ := T10.out.step1 hm11 hk11
  obtain ⟨pb11, ad, n, cc, rfl, hlo, hhi, q0, q1, -⟩ := out_one hO11 hP11
  have q0 : w11.cell? ⟨pb11, 0, none⟩ = some (.int .i64 1) := q0
  have hd := gdone_any w11 t11.a
  have hd : Calls Tryd.prog 13 #[.pointer (some ⟨g1, 0, none⟩)] w11 fun e w' => e = .returned (.bool true) ∧ w' = w11 := hd
  have Hd := Lib.hid hd
  have K11 := Lib.hid (K10.out.trans k11)
  clear hm11 hk11 hO11 hP11 hz11 t11 k11 hd Hout hlo hhi q1
  go_wp2_with (go_at_call 13; refine Hd.out.mono ?_; rintro x w12 ⟨rfl, rfl⟩)
  go_ret
  exact ⟨rfl, K11.out.below HB5.out (by have := HB5.out.size; omega) HZr.out.1 HZr.out.2⟩
end Go.Proofs.YtkhcpnmbhbhcgaaDoor

/- law13.meet: the walk. -/
set_option maxRecDepth 100000
set_option linter.unusedVariables false
namespace Go.Proofs.YtkhcpnmbhbhcgaaDoor
open Go.RowKit Go.Joins
set_option maxHeartbeats 4000000 in
theorem meet_any (w : World) {ra rb : Nat → Nat} {ga gb : Nat} {Sa Sb : MS} {Aa Ab : MA} (hT : TM w ra rb ga gb Sa Sb Aa Ab) (part : Nat) (hp : 0 < part) (hp2 : part ≤ 1000000) (ba : Bn Sa 4000000000 0) (bb : Bn Sb 4000000000 0) :
    Calls Tryd.prog 14 #[.pointer (some ⟨ga, 0, none⟩), .pointer (some ⟨gb, 0, none⟩), .int .i64 (part : Int)] w fun e w' => e = .returned (.int .u64 ((meetM part 6 Sa Sb).2.2 : Int)) ∧ ∃ ra' rb', Kp2 w w' ra rb ra' rb' ∧
      ((meetM part 6 Sa Sb).2.2 = 0 → ∃ Aa' Ab', TM w' ra' rb' ga gb (meetM part 6 Sa Sb).1 (meetM part 6 Sa Sb).2.1 Aa' Ab') := by
  obtain ⟨R, hR⟩ : ∃ R, meetM part 6 Sa Sb = R := ⟨_, rfl⟩
  rw [hR]
  have HSTART := Lib.hid (show ∃ i g1 g2 : Nat, i ≤ 6 ∧ Value.int .i64 (0 : Int) = .int .i64 (i : Int) ∧ Value.pointer (some ⟨ga, 0, none⟩) = .pointer (some ⟨g1, 0, none⟩) ∧ Value.pointer (some ⟨gb, 0, none⟩) = .pointer (some ⟨g2, 0, none⟩) ∧ MtR w ra rb ga gb part R i g1 g2 w from
    ⟨0, ga, gb, by omega, rfl, rfl, rfl, ra, rb, Sa, Sb, Aa, Ab, hT, Kp2.refl w ra rb, hR, .inl ⟨rfl, rfl, rfl⟩, ba, bb⟩)
  clear hT ba bb hR
  go_enter Tryd.func14, Tryd.ntmps14
  go_wp2
  go_loopw [11, 0, 1] (fun s11 s0 s1 wr => ∃ i g1 g2 : Nat, i ≤ 6 ∧ s11 = .int .i64 (i : Int) ∧ s0 = .pointer (some ⟨g1, 0, none⟩) ∧ s1 = .pointer (some ⟨g2, 0, none⟩) ∧ MtR w ra rb ga gb part R i g1 g2 wr) (fun s11 _ _ _ => match s11 with | .int _ x => (6 - x).toNat | _ => 0)
  case atStart => exact HSTART.out
  case round =>
    clear HSTART
    obtain ⟨i, g1, g2, hi, rfl, rfl, rfl, hM⟩ := hrel
    have HM := Lib.hid hM
    clear hM
    by_cases h6 : i = 6
    · subst h6
      go_wp2
      go_ret
      obtain ⟨r1, r2, S1, S2, A1, A2, hT, hK, hE, hg, hb1, hb2⟩ := HM.out
      have hE : (S1, S2, 0) = R := hE
      rw [← hE]
      rcases hg with ⟨rfl, rfl, _⟩ | ⟨_, _, h⟩
      · exact ⟨rfl, r1, r2, hK, fun _ => ⟨A1, A2, hT⟩⟩
      · cases h
    · have hi2 : i < 6 := by omega
      obtain ⟨r1, r2, S1, S2, A1, A2, hT, hK, hE, hg, hb1, hb2⟩ := HM.out
      have hout := gout_any wr hT.a
      obtain ⟨pl, hpl⟩ : ∃ x, (outM S1).2.length = x := ⟨_, rfl⟩
      rw [hpl] at hout
      have Hout := Lib.hid hout
      have HT := Lib.hid hT
      have HK := Lib.hid hK
      have HE := Lib.hid hE
      have Hg := Lib.hid hg
      have HB := Lib.hid (And.intro hb1 hb2)
      have Hpl := Lib.hid hpl
      clear hT hK hE hg hb1 hb2 hout hpl HM
      go_upto_region 4 with (go_at_call 11; refine Hout.out.mono ?_; rintro x w1 ⟨pa, pc, cs, r1', A1', rfl, hm1, hk1, hO1, hP1, hz1⟩)
      have hcs := hO1.len
      obtain ⟨ps, hps⟩ : ∃ ps, (outM S1).2 = ps := ⟨_, rfl⟩
      obtain ⟨Sn, hSn⟩ : ∃ x, (outM S1).1 = x := ⟨_, rfl⟩
      obtain ⟨F, hF⟩ : ∃ F, feedL part ps S2 = F := ⟨_, rfl⟩
      have hpcs := outM_pcs HB.out.1
      have hlvs := outM_lv S1
      rw [hps] at hP1 hpcs hlvs
      rw [hSn] at hm1
      have hpl := Hpl.out
      rw [hps] at hpl
      have hmore := meetM_more (n := 5 - i) (R := R) (F := F) (by rw [← HE.out]; congr 1; omega) (by rw [hps]; exact hF)
      rw [hSn] at hmore
      have hpb : ∃ pb, 0 < pl → pa = some ⟨pb, 0, none⟩ := by
        rcases hO1.shape with ⟨_, h, _⟩ | ⟨pb, _, h, _⟩
        · exact ⟨0, fun h2 => by omega⟩
        · exact ⟨pb, fun _ => h⟩
      obtain ⟨pb, hpb⟩ := hpb
      have hplm : pl ≤ 140737488355328 := by have h1 := outM_two S1; rw [Hpl.out] at h1; omega
      have hstart : PcR w ra rb r1' g1 g2 Sn A1' part (i * 8000000000 + 8000000000) wr.heap.size pa pl pc cs ps F 0 w1 := by
        obtain ⟨t1, k1⟩ := HT.out.step1 hm1 hk1
        exact ⟨r2, S2, A2, i * 8000000000, ⟨t1, HK.out.trans k1, hO1.rs, fun ad ha => HT.out.b.gp.top _ (hO1.base_le ha).1, fun ad ha => (hO1.base_le ha).2, PcOf.to HT.out.dis hP1, k1.size, HK.out.size⟩, hF, HB.out.2, by simp only [List.drop_zero]; omega⟩
      have hbn := HB.out.1.out
      rw [hSn] at hbn
      have HS := Lib.hid hstart
      have Hbn := Lib.hid hbn
      have Hmore := Lib.hid hmore
      have Hlv := Lib.hid hlvs
      have Hpl2 := Lib.hid hpl
      have Hpb := Lib.hid hpb
      obtain ⟨X, hX⟩ : ∃ X, i * 8000000000 + 8000000000 = X := ⟨_, rfl⟩
      rw [hX] at HS
      have HX := Lib.hid hX
      obtain ⟨N0, hN0⟩ : ∃ N, wr.heap.size = N := ⟨_, rfl⟩
      rw [hN0] at HS
      clear hm1 hk1 hO1 hP1 hz1 hstart hbn hmore hlvs hpl hpb hX hN0 hcs hps hSn hF hpcs HT HK HE HB Hpl Hout
      go_loopw [16] (fun s16 wj => ∃ j : Nat, j ≤ pl ∧ s16 = .int .i64 (j : Int) ∧ PcR w ra rb r1' g1 g2 Sn A1' part X N0 pa pl pc cs ps F j wj) (fun s16 _ => match s16 with | .int _ x => (pl - x).toNat | _ => 0)
      case atStart => exact ⟨0, by omega, rfl, HS.out⟩
      case round =>
        clear HS
        obtain ⟨j, hj, rfl, hP⟩ := hrel
        by_cases hjl : j = pl
        · subst hjl
          have HP := Lib.hid hP
          clear hP
          go_wp2
          obtain ⟨r2, S2, A2, D, h, hF, hb, hD⟩ := HP.out
          rw [List.drop_eq_nil_of_le (by rw [Hpl2.out]; exact Nat.le_refl _)] at hF hD h
          have hF : (S2, 0) = F := hF
          have hm := Hmore.out.2 (by rw [← hF])
          rw [← hF] at hm
          have hX := HX.out
          refine ⟨⟨i + 1, g2, g1, by omega, by simp, rfl, rfl, r2, r1', S2, Sn, A2, A1', h.tm.swap, h.kp.swap, by rw [show 6 - (i + 1) = 5 - i by omega]; exact hm, ?_, (hb.mono (by omega)).mono (show X ≤ (i + 1) * 8000000000 by omega), Hbn.out.mono (by omega)⟩, ?_⟩
          · rcases Hg.out with ⟨e1, e2, e3⟩ | ⟨e1, e2, e3⟩
            · exact .inr ⟨e2, e1, by omega⟩
            · exact .inl ⟨e2, e1, by omega⟩
          · simp; omega
        · obtain ⟨r2, S2, A2, D, h, hF, hb, hD⟩ := hP
          have hjp : j < ps.length := by rw [Hpl2.out]; omega
          obtain ⟨l, b, ps', hdr, hlv⟩ : ∃ l b ps', ps.drop j = (l, b) :: ps' ∧ l < 2 ∧ b ≠ [] := by
            refine ⟨(ps[j]).1, (ps[j]).2, ps.drop (j + 1), by rw [List.drop_eq_getElem_cons hjp], ?_⟩
            exact Hlv.out _ (List.getElem_mem hjp)
          rw [hdr] at h hF hD
          obtain rfl := Hpb.out (by omega)
          obtain ⟨J, hJ⟩ : ∃ J, 2 * j = J := ⟨_, rfl⟩
          rw [hJ] at h
          obtain ⟨a, n, c, cs2, hcs, hn, hnext⟩ := h.next
          obtain ⟨q0, q1⟩ := pcs_cells h.row hcs
          have HH := Lib.hid h
          have HF := Lib.hid hF
          have Hb := Lib.hid hb
          have HD := Lib.hid hD
          have Hdr := Lib.hid hdr
          have Hcs := Lib.hid hcs
          have HJ := Lib.hid hJ
          have hjl' : j < pl := by omega
          have hwr : IntKind.i64.wrap ((j : Int) + 1) = (j : Int) + 1 := IntWalk.i64_in _ (by omega)
          have Hnext := Lib.hid hnext
          have Hn := Lib.hid hn
          have Hlv2 := Lib.hid hlv
          clear h hF hb hD hdr hcs hnext hJ hlv hjp hn
          go_upto_region 6 with (refine L_index20 tPc _ _ rfl rfl .i64 _ j rfl rfl rfl hjl' HJ.out ?_)
          have hI := Hnext.out (wr.alloc (.cells #[.int .i64 (l : Int), .slice a n c] 36)) (below_alloc wr _) (heap_alloc_new wr _)
          obtain ⟨w5, hw5⟩ : ∃ x, wr.alloc (.cells #[.int .i64 (l : Int), .slice a n c] 36) = x := ⟨_, rfl⟩
          obtain ⟨q, hq⟩ : ∃ q, wr.heap.size = q := ⟨_, rfl⟩
          rw [hw5, hq] at hI
          rw [hw5, hq]
          obtain ⟨G, hG⟩ : ∃ G, feedM part l n b S2 = G := ⟨_, rfl⟩
          have hmL := feedL_more (G := G) HF.out (by rw [← Hn.out]; exact hG)
          have HmL := Lib.hid hmL
          have hin : InR w ra rb r1' g1 g2 Sn A1' part X N0 (some ⟨pb, 0, none⟩) pl pc cs ps' cs2 q l G w5 := ⟨r2, S2, A2, D, a, n, c, b, hI, hG, Hb.out, by have h : D + (b.length + pcs ps') ≤ X := HD.out; rw [Hn.out]; omega⟩
          have HIN := Lib.hid hin
          clear hI hw5 hq hG hmL hin HH HF Hb HD Hnext Hn q0 q1
          go_loopw [9] (fun s9 w8 => InR w ra rb r1' g1 g2 Sn A1' part X N0 (some ⟨pb, 0, none⟩) pl pc cs ps' cs2 q l G w8) (fun _ w8 => boxN q w8)
          case atStart => exact HIN.out
          case round =>
            clear HIN
            obtain ⟨r2, S2, A2, D, ad, n, c, x, h, hG, hb, hD⟩ := hrel
            have hcl : wr.cell? ⟨q, 1, none⟩ = some (.slice ad n c) := by simp [World.cell?, h.box]
            have hc0 : wr.cell? ⟨q, 0, none⟩ = some (.int .i64 (l : Int)) := by simp [World.cell?, h.box]
            have hfz : wr.frozen? ⟨q, 1, none⟩ = false := by simp [World.frozen?, h.box]
            have hxl := BS.len h.bs
            have HH := Lib.hid h
            have HG := Lib.hid hG
            have Hb := Lib.hid hb
            have HD := Lib.hid hD
            have Hxl := Lib.hid hxl
            clear h hG hb hD hxl
            by_cases hn0 : n = 0
            · subst hn0
              clear hc0 hfz
              go_wp2
              have hG2 : (S2, 0) = G := HG.out
              have hf2 := HmL.out.2 (by rw [← hG2])
              rw [← hG2] at hf2
              refine ⟨⟨j + 1, by omega, by simp, r2, S2, A2, D, ?_, ?_, Hb.out, ?_⟩, ?_⟩
              · rw [show ps.drop (j + 1) = ps' by rw [← List.drop_drop, Hdr.out]; rfl, show cs.drop (2 * (j + 1)) = cs2 by rw [show 2 * (j + 1) = J + 2 by have := HJ.out; omega, ← List.drop_drop, Hcs.out]; rfl]
                exact HH.out.p
              · rw [show ps.drop (j + 1) = ps' by rw [← List.drop_drop, Hdr.out]; rfl]; exact hf2
              · rw [show ps.drop (j + 1) = ps' by rw [← List.drop_drop, Hdr.out]; rfl]; have := HD.out; omega
              · simp; omega
            · obtain ⟨m, hm⟩ : ∃ m, min n part = m := ⟨_, rfl⟩
              have hmin : min (n : Int) (part : Int) = (m : Int) := by omega
              have hm1 : m ≤ n := by omega
              have hm0 : 0 < m := by omega
              have hgt : 0 < (n : Int) := by omega
              have HmF := Lib.hid (feedM_more hp Hxl.out (Nat.pos_of_ne_zero hn0) HG.out)
              rw [hm] at HmF
              have htk : x.take part = x.take m := by
                rw [← hm, ← Hxl.out]
                by_cases hle : x.length ≤ part
                · rw [List.take_of_length_le hle, Nat.min_eq_left hle, List.take_of_length_le (Nat.le_refl _)]
                · rw [Nat.min_eq_right (by omega)]
              rw [htk] at HmF
              obtain ⟨V, hV⟩ : ∃ V, wr.drew = V := ⟨_, rfl⟩
              have hIV : InS w V ra rb r1' r2 g1 g2 Sn S2 A1' A2 N0 (some ⟨pb, 0, none⟩) pl pc cs ps' cs2 q l ad n c x := by rw [← hV]; exact HH.out.drew
              have HI := Lib.hid hIV
              obtain ⟨hbm, hrun⟩ := runK_h hIV.bs .i64 m hm1
              have Hbm := Lib.hid hbm
              have Hrun := Lib.hid hrun
              have HOB := Lib.hid HH.out.box
              clear htk hm hIV hbm hrun HH
              go_upto_region 8 with (fail)
              clear hcl hc0 hfz hmin
              refine wp_region_held_drew (S := fun w' => w'.heap[q]? = some (.cells #[.int .i64 (l : Int), .slice ad n c] 36 (0, 0))) (by kernel_rfl) (by rw [hV]; exact HI.out.box) (fun hHeld => ?_)
              rw [hV] at hHeld ⊢
              refine wpAnyH_take (i := 0) (v := .pointer (some ⟨g2, 0, none⟩)) rfl (by kernel_rfl) (by kernel_rfl) (by kernel_rfl) (fun _ _ _ h => h) (Or.inl ⟨by rfl, fun w h => by go_simp⟩) hHeld ?_
              try simp only [Act.put, List.getElem_toArray, List.getElem_cons_zero, List.setIfInBounds_toArray, List.set_cons_zero, List.set_cons_succ]
              refine wpAnyH_take (i := 1) (v := .pointer (some ⟨q, 0, none⟩)) rfl (by kernel_rfl) (by kernel_rfl) (by kernel_rfl) (fun _ _ _ h => h) (Or.inl ⟨by rfl, fun w h => by go_simp⟩) hHeld ?_
              try simp only [Act.put, List.getElem_toArray, List.getElem_cons_succ, List.getElem_cons_zero, List.setIfInBounds_toArray, List.set_cons_zero, List.set_cons_succ]
              refine wpAnyH_take (i := 2) (v := .int .i64 (l : Int)) rfl (by kernel_rfl) (by kernel_rfl) (by kernel_rfl) (fun _ _ _ h => h) (Or.inl ⟨by rfl, fun w h => by have h2 : w.cell? ⟨q, 0, none⟩ = some (.int .i64 (l : Int)) := (by simp [World.cell?, h]); go_simp⟩) hHeld ?_
              try simp only [Act.put, List.getElem_toArray, List.getElem_cons_succ, List.getElem_cons_zero, List.setIfInBounds_toArray, List.set_cons_zero, List.set_cons_succ]
              refine wpAnyH_take (i := 3) (v := .pointer (some ⟨q, 1, none⟩)) rfl (by kernel_rfl) (by kernel_rfl) (by kernel_rfl) (fun _ _ _ h => h) (Or.inl ⟨by rfl, fun w h => by go_simp⟩) hHeld ?_
              try simp only [Act.put, List.getElem_toArray, List.getElem_cons_succ, List.getElem_cons_zero, List.setIfInBounds_toArray, List.set_cons_zero, List.set_cons_succ]
              refine wpAnyH_take (i := 4) (v := .slice ad n c) rfl (by kernel_rfl) (by kernel_rfl) (by kernel_rfl) (fun _ _ _ h => h) (Or.inl ⟨by rfl, fun w h => by have h2 : w.cell? ⟨q, 1, none⟩ = some (.slice ad n c) := (by simp [World.cell?, h]); go_simp⟩) hHeld ?_
              try simp only [Act.put, List.getElem_toArray, List.getElem_cons_succ, List.getElem_cons_zero, List.setIfInBounds_toArray, List.set_cons_zero, List.set_cons_succ]
              refine wpAnyH_take (i := 5) (v := .int .i64 (m : Int)) rfl (by kernel_rfl) (by kernel_rfl) (by kernel_rfl) (fun _ _ _ h => h) (Or.inl ⟨by rfl, fun w h => by go_simp⟩) hHeld ?_
              try simp only [Act.put, List.getElem_toArray, List.getElem_cons_succ, List.getElem_cons_zero, List.setIfInBounds_toArray, List.set_cons_zero, List.set_cons_succ]
              refine wpAnyH_take (i := 6) (v := .slice ad m c) rfl (by kernel_rfl) (by kernel_rfl) (by kernel_rfl) (fun _ _ _ h => h) (Or.inl ⟨by rfl, fun w h => by have h2 := Hrun.out w; go_simp⟩) hHeld ?_
              try simp only [Act.put, List.getElem_toArray, List.getElem_cons_succ, List.getElem_cons_zero, List.setIfInBounds_toArray, List.set_cons_zero, List.set_cons_succ]
              refine wpAnyH_ready (rs := [7]) (by kernel_rfl) (by simp) (AllReadyH.cons rfl (fun K hK => ?_) AllReadyH.nil)
              go_simp
              go_at_call 12
              have hB := Hb.out
              have hD := HD.out
              have hX := HX.out
              have q1 := hB.said
              have q2 := hB.o0
              have q3 := hB.o1
              have q4 := hB.i0
              have q5 := hB.i1
              have q6 := hB.sec
              refine (ghear_any V HI.out.p.tm.b Hbm.out (by omega) (by omega) (by omega) (by omega) hB.par (by omega) (by omega) HI.out.p.tm.kt HI.out.p.tm.z2 (l : Int)).mono ?_
              rintro y v7 ⟨rfl, r7, A7, hm7, hk7⟩
              clear hB hD hX q1 q2 q3 q4 q5 q6
              have hI7 := HI.out.hear hm7 hk7
              refine hK.out _ _ hI7.box (fun hHeld => ?_)
              clear hK K hm7 hk7
              try simp only [Act.put, List.getElem_toArray, List.getElem_cons_succ, List.getElem_cons_zero, List.setIfInBounds_toArray, List.set_cons_zero, List.set_cons_succ]
              obtain ⟨S7, hS7⟩ : ∃ S7, hearM (l : Int) (x.take m) S2 = S7 := ⟨_, rfl⟩
              have hbn7 := (Hb.out.hear (l : Int) (x.take m))
              rw [hS7] at hI7 hbn7 HmF ⊢
              rw [show (x.take m).length = m from BS.len Hbm.out] at hbn7
              obtain ⟨wn, hwn⟩ : ∃ wn, S7.wrong = wn := ⟨_, rfl⟩
              rw [hwn] at HmF ⊢
              have HI7 := Lib.hid hI7
              have Hbn7 := Lib.hid hbn7
              clear hS7 hwn hI7 hbn7
              refine wpAnyH_take (i := 8) (v := .int .u64 (wn : Int)) rfl (by kernel_rfl) (by kernel_rfl) (by kernel_rfl) (fun _ _ _ h => h) (Or.inl ⟨by rfl, fun w h => by go_simp⟩) hHeld ?_
              try simp only [Act.put, List.getElem_toArray, List.getElem_cons_succ, List.getElem_cons_zero, List.setIfInBounds_toArray, List.set_cons_zero, List.set_cons_succ]
              refine wpAnyH_done (by kernel_rfl) ?_ _
              try simp only [Act.put, List.getElem_toArray, List.getElem_cons_succ, List.getElem_cons_zero]
              clear hHeld
              by_cases hw0 : wn = 0
              · subst hw0
                have hbs7 := Lib.hid HI7.out.bs
                have q71 : v7.cell? ⟨q, 1, none⟩ = some (.slice ad n c) := by have := HI7.out.box; simp [World.cell?, this]
                have f71 : v7.frozen? ⟨q, 1, none⟩ = false := by have := HI7.out.box; simp [World.frozen?, this]
                go_wp2_with (refine L_slice_l tB hbs7.out m _ _ rfl rfl .i64 _ rfl rfl rfl hm1 ?_; intro a' ha0 ha1 hb2)
                have hb3 : BS v7 a' (n - m) (c - m) (x.drop m) := by
                  have h := hb2
                  rw [Nat.mul_one, ← List.map_drop] at h
                  exact h
                have h8 := HI7.out.set hb3 ha1
                have hg := HmF.out.2 rfl
                have hbx := h8.boxN
                refine ⟨⟨r7, S7, A7, D + m, a', n - m, c - m, x.drop m, h8, hg, Hbn7.out, by have := HD.out; omega⟩, ?_⟩
                rw [hbx]
                have hold : boxN q wr = n := by simp [boxN, World.cell?, HOB.out]
                rw [hold]
                omega
              · have hne : ¬ ((wn : Int) = 0) := by omega
                go_wp2
                go_ret
                have e1 := HmF.out.1 hw0
                have e2 := HmL.out.1 (by rw [e1]; exact hw0)
                have e3 := Hmore.out.1 (by rw [e2, e1]; exact hw0)
                rw [e3, e2, e1]
                exact ⟨rfl, r1', r7, HI7.out.p.kp, fun h => absurd h hw0⟩
end Go.Proofs.YtkhcpnmbhbhcgaaDoor
