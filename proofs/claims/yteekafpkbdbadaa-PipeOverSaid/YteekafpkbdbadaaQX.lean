/- quilt: Ready of one patch from the first byte on. -/
import Derived.Test.YteekafpkbdbadaaQW
import Derived.Test.YteekafpkbdbadaaQE
set_option maxRecDepth 100000
set_option linter.unusedVariables false
namespace Go.Proofs.Yteekafpkbdbadaa.Pi
open Go.RowKit
/-- one patch from the first byte on, its address said -/
structure QF1 (w : World) (qb bD of cD : Nat) (a2 : Option Addr) (n c2 la : Nat) (kn : Bool) : Prop where
  qr : CR w qb 111 [.slice (some ⟨bD, of, none⟩) 1 cD, u64 0, u64 n, u64 la, .bool kn]
  bk : ∃ cur, w.heap[bD]? = some (.cells cur 113 (0, 0)) ∧ cur[of]? = some (.int .u64 0) ∧ cur[of + 1]? = some (.slice a2 n c2) ∧ of + cD * 2 ≤ cur.size
  cm : 1 ≤ cD ∧ cD ≤ maxLen
section
variable {w w' : World} {qb bD of cD n c2 la : Nat} {a2 : Option Addr} {kn : Bool}
theorem QF1.lt (h : QF1 w qb bD of cD a2 n c2 la kn) : bD < w.heap.size := by
  obtain ⟨cur, h1, _⟩ := h.bk
  exact (Array.getElem?_eq_some_iff.1 h1).1
theorem QF1.bel (h : QF1 w qb bD of cD a2 n c2 la kn) (hb : Below w.heap.size w w') : QF1 w' qb bD of cD a2 n c2 la kn := by
  have hl := h.lt
  obtain ⟨cur, h1, h2⟩ := h.bk
  exact ⟨h.qr.bel hb, ⟨cur, by rw [hb.block _ hl]; exact h1, h2⟩, h.cm⟩
theorem QF1.p0 (h : QF1 w qb bD of cD a2 n c2 la kn) : w.cell? ⟨bD, of, none⟩ = some (.int .u64 0) := by
  obtain ⟨cur, h1, h2, h3, _⟩ := h.bk
  simp [World.cell?, h1, h2]
theorem QF1.p1 (h : QF1 w qb bD of cD a2 n c2 la kn) : w.cell? ⟨bD, of + 1, none⟩ = some (.slice a2 n c2) := by
  obtain ⟨cur, h1, h2, h3, _⟩ := h.bk
  simp [World.cell?, h1, h3]
theorem QF1.rng (h : QF1 w qb bD of cD a2 n c2 la kn) : w.rangeAt bD of [.int .u64 0, .slice a2 n c2] := fun j v hv => by
  match j, hv with
  | 0, hv => simp at hv; subst hv; exact h.p0
  | 1, hv => simp at hv; subst hv; exact h.p1
theorem QF1.fr (h : QF1 w qb bD of cD a2 n c2 la kn) (i : Nat) : w.frozen? ⟨bD, i, none⟩ = false := by
  obtain ⟨cur, h1, _⟩ := h.bk
  simp [World.frozen?, h1]
/-- a quilt with one patch -/
theorem QuZ.qf1 {role : Nat → Nat} {r : Nat} {p : List UInt8} (h : QuZ w role r qb ⟨[(0, p)], 0, n, la, kn⟩) (hp : p.length = n) : ∃ bD of cD a2 c2, QF1 w qb bD of cD a2 n c2 la kn ∧ BS w a2 n c2 p ∧ role bD = r + 11 ∧ (∀ ad, a2 = some ad → role ad.block = r + 12) := by
  obtain ⟨x, vs, q1, q2, q3, q4⟩ := h.ex
  cases q3 with
  | @cons _ _ s _ vs' hb hr hnil =>
    cases hnil
    have hl := q2.rs.len
    have hx1 : x.n = 1 := by simp at hl; omega
    have hsn : s.n = n := by have := BS.len hb; omega
    obtain ⟨xa, xn, xc⟩ := x
    obtain ⟨sa, sn, sc⟩ := s
    simp only at hx1 hsn
    subst hx1 hsn
    cases xa with
    | none => exact absurd (show 1 = 0 from q2.rs.nil_inv.1) (by decide)
    | some ad =>
      obtain ⟨h1, cur, h2, h3⟩ := q2.own ad rfl
      obtain ⟨bD, of, sp⟩ := ad
      simp only at h1 h2 h3
      subst h1
      have hc := q2.rs.2.2.2.2.2 _ rfl
      have c0 := hc.2 0 _ rfl
      have c1 := hc.2 1 _ rfl
      simp only [Nat.add_zero, World.cell?, h2] at c0 c1
      simp at c0 c1
      exact ⟨bD, of, xc, sa, sc, ⟨q1.cr, ⟨cur, h2, c0, c1, h3⟩, q2.rs.2.1, q2.rs.2.2.1⟩, hb, q2.rb _ rfl, fun ad had => (hr ad had).1⟩
set_option maxHeartbeats 2000000 in
theorem ready_one (h : QF1 w qb bD of cD a2 n c2 la kn) (hn : n < 4611686018427387904) :
    Calls Try.prog 49 #[ptr qb] w fun e w' => e = .returned (.int .i64 (n : Int)) ∧ Below w.heap.size w w' := by
  have q0 : w.cell? ⟨qb, 0, none⟩ = some (.slice (some ⟨bD, of, none⟩) 1 cD) := h.qr.at_ 0
  have H := Lib.hid h
  have hrx := CR.new w 113 [.int .u64 0, .slice none 0 0]
  obtain ⟨xb, hxb⟩ : ∃ q, w.heap.size = q := ⟨_, rfl⟩
  rw [hxb] at hrx
  have HRX := Lib.hid hrx
  have HXB := Lib.hid hxb
  have hw : IntKind.i64.wrap (n : Int) = (n : Int) := IntWalk.i64_in _ (by omega)
  clear h hrx
  unfold ptr
  go_enter Try.func49, Try.ntmps49
  go_wp2_with fail
  refine wp_loop_rounds 2 ?_
  rw [rounds_succ]
  go_upto_region 7 with (first
    | (refine L_indexO tP _ _ rfl _ _ 0 rfl rfl rfl (by omega) (J := of) (by omega) (by rfl) ?_)
    | (refine L_loadG 113 _ rfl (by rfl) _ _ rfl _ _ H.out.rng Try.underlying113 rfl iPat ?_)
    | (refine L_storeRow (old := [.int .u64 0, .slice none 0 0]) (new := [.int .u64 0, .slice a2 n c2]) rfl 113 _ _ rfl rfl rfl HRX.out iPat rfl rfl (by simp [Value.oneCell']) ?_; intro w4 hz4 hg4; have HX4 := Lib.hid hz4; have HG4 := Lib.hid hg4; clear hz4 hg4))
  have B4 : Below w.heap.size w w4 := (below_alloc w (.cells [.int .u64 0, .slice none 0 0].toArray 113)).grown HG4.out (by simp) (fun j hj => by cases hj; rw [HXB.out]; exact Nat.le_refl _)
  have HB4 := Lib.hid B4
  have HQ4 := Lib.hid (H.out.bel B4)
  clear B4 hxb q0
  have k0 : w4.cell? ⟨xb, 0, none⟩ = some (.int .u64 0) := HX4.out.at_ 0
  have k1 : w4.cell? ⟨qb, 1, none⟩ = some (.int .u64 0) := HQ4.out.qr.at_ 1
  go_quiet (fail)
  clear k0 k1
  have bV := bel_drewN w4.heap.size w4 nq
  obtain ⟨U, hU⟩ : ∃ q, w4.drewN nq = q := ⟨_, rfl⟩
  rw [hU] at bV ⊢
  have HXU := Lib.hid (HX4.out.bel bV)
  have HBU := Lib.hid (HB4.out.trans (bV.mono HB4.out.size))
  clear bV hU
  have k1 : U.cell? ⟨xb, 1, none⟩ = some (.slice a2 n c2) := HXU.out.at_ 1
  go_wp2_with fail
  rw [rounds_succ]
  go_wp2_with fail
  go_ret
  exact ⟨rfl, HBU.out⟩
end
end Go.Proofs.Yteekafpkbdbadaa.Pi
