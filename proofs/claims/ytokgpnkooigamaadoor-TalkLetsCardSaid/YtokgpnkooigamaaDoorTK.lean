/- word's pen: the fields of a message. -/
import Derived.Test.YtokgpnkooigamaaDoorTJ
import Derived.Test.YtokgpnkooigamaaDoorTF
import Derived.Deep.DeepCutAuto
set_option maxRecDepth 100000
set_option linter.unusedVariables false
namespace Go.Proofs.YtokgpnkooigamaaDoor
open Go.RowKit
/-- the pen has at most N bytes, the message lies in its box -/
structure FD (wB : World) (g : Nat) (k : List Nat) (m : MG) (s : ML) (N : Nat) (w : World) : Prop where
  pen : ∃ n a c, PN wB.heap.size w g n a c ∧ n ≤ N
  box : ∀ j ∈ k, CR w j 31 (mgc m s) ∧ j ≠ g
  bel : Below wB.heap.size wB w
theorem FD.alloc {wB w : World} {g : Nat} {k : List Nat} {m : MG} {s : ML} {N : Nat} (h : FD wB g k m s N w) (o : Obj) : FD wB g k m s N (w.alloc o) := by
  obtain ⟨⟨n, a, c, h1, h2⟩, h3, h5⟩ := h
  have hb := below_alloc w o
  exact ⟨⟨n, a, c, h1.bel hb, h2⟩, fun j hj => ⟨(h3 j hj).1.bel hb, (h3 j hj).2⟩, below_then h5 hb h5.size⟩
theorem FD.drew {wB w : World} {g : Nat} {k : List Nat} {m : MG} {s : ML} {N : Nat} (h : FD wB g k m s N w) : FD wB g k m s N w.drew := by
  obtain ⟨⟨n, a, c, h1, h2⟩, h3, h5⟩ := h
  exact ⟨⟨n, a, c, ⟨h1.hg, h1.row, h1.ow⟩, h2⟩, h3, ⟨h5.os, h5.tape, h5.output, h5.size, h5.block⟩⟩
theorem FD.mono {wB w : World} {g : Nat} {k : List Nat} {m : MG} {s : ML} {N N' : Nat} (h : FD wB g k m s N w) (hN : N ≤ N') : FD wB g k m s N' w := by
  obtain ⟨⟨n, a, c, h1, h2⟩, h3, h5⟩ := h
  exact ⟨⟨n, a, c, h1, Nat.le_trans h2 hN⟩, h3, h5⟩
theorem fd_num (w : World) {wB : World} {g : Nat} {k : List Nat} {m : MG} {s : ML} {N : Nat} (h : FD wB g k m s N w) {l : Option Addr} {ln lc : Nat} {xs : List Nat} (hl : RS w 1 l ln lc (US xs)) (hxs : ∀ x ∈ xs, x < 4611686018427387904) (hN : N + 8 * ln ≤ 1099511627776)
    (hap : ∀ n a c, PN wB.heap.size w g n a c → 0 < ln → APT g a l) :
    Calls Tryd.prog 58 #[.pointer (some ⟨g, 0, none⟩), .slice l ln lc] w fun e w' => e = .returned (.tuple #[]) ∧ FD wB g k m s (N + 8 * ln) w' := by
  obtain ⟨⟨n, a, c, h1, h2⟩, h3, h5⟩ := h
  refine (pnum_any w h1 hl (hap n a c h1) hxs (by omega) h5.size).mono fun e w' h => ?_
  obtain ⟨rfl, ⟨n', a', c', k1, k2, k3⟩, k4, k5⟩ := h
  obtain ⟨vs, ho⟩ := h1.ow
  refine ⟨rfl, ⟨n', a', c', k1, by omega⟩, fun j hj => ⟨(h3 j hj).1.keep (k5.2 j (h3 j hj).1.lt (h3 j hj).2 (fun ag hag he => ho.neCR (h3 j hj).1 (by decide) ag hag he.symm)), (h3 j hj).2⟩, h5.trans (k4.mono (Nat.le_refl _))⟩
theorem fd_num1 (w : World) {wB : World} {g : Nat} {k : List Nat} {m : MG} {s : ML} {N : Nat} (h : FD wB g k m s N w) (x : Nat) (hx : x < 4611686018427387904) (hN : N + 8 ≤ 1099511627776) :
    Calls Tryd.prog 58 #[.pointer (some ⟨g, 0, none⟩), .slice (some ⟨w.heap.size, 0, none⟩) 1 1] (w.alloc (.cells #[.int .u64 (x : Int)] 23)) fun e w' => e = .returned (.tuple #[]) ∧ FD wB g k m s (N + 8) w' := by
  have hp : ∀ n a c, PN wB.heap.size (w.alloc (.cells #[.int .u64 (x : Int)] 23)) g n a c → 0 < 1 → APT g a (some ⟨w.heap.size, 0, none⟩) := fun n a c hp _ ad had => by
    cases had
    obtain ⟨⟨n0, a0, c0, h1, h2⟩, h3, h5⟩ := h
    refine ⟨fun he => ?_, fun ag hag he => ?_⟩
    · have := h1.row.lt; simp only at he; omega
    · obtain ⟨vs, ho⟩ := hp.ow
      simp only at he
      exact ho.neCR (g := w.heap.size) (t := 23) (l := [.int .u64 (x : Int)]) (heap_alloc_new w _) (by decide) ag hag he.symm
  exact fd_num _ (h.alloc _) (xs := [x]) (ln := 1) (RS_one w 23 (.int .u64 (x : Int)) rfl) (by simpa using hx) (by omega) hp
theorem fd_num2 (w : World) {wB : World} {g : Nat} {k : List Nat} {m : MG} {s : ML} {N : Nat} (h : FD wB g k m s N w) (x y : Nat) (hx : x < 4611686018427387904) (hy : y < 4611686018427387904) (hN : N + 16 ≤ 1099511627776) :
    Calls Tryd.prog 58 #[.pointer (some ⟨g, 0, none⟩), .slice (some ⟨w.heap.size, 0, none⟩) 2 2] (w.alloc (.cells #[.int .u64 (x : Int), .int .u64 (y : Int)] 23)) fun e w' => e = .returned (.tuple #[]) ∧ FD wB g k m s (N + 16) w' := by
  have hp : ∀ n a c, PN wB.heap.size (w.alloc (.cells #[.int .u64 (x : Int), .int .u64 (y : Int)] 23)) g n a c → 0 < 2 → APT g a (some ⟨w.heap.size, 0, none⟩) := fun n a c hp _ ad had => by
    cases had
    obtain ⟨⟨n0, a0, c0, h1, h2⟩, h3, h5⟩ := h
    refine ⟨fun he => ?_, fun ag hag he => ?_⟩
    · have := h1.row.lt; simp only at he; omega
    · obtain ⟨vs, ho⟩ := hp.ow
      simp only at he
      exact ho.neCR (g := w.heap.size) (t := 23) (l := [.int .u64 (x : Int), .int .u64 (y : Int)]) (heap_alloc_new w _) (by decide) ag hag he.symm
  exact fd_num _ (h.alloc _) (xs := [x, y]) (ln := 2) (RS_new w 23 #[.int .u64 (x : Int), .int .u64 (y : Int)] 2 rfl (by omega) (by simp [Value.oneCell'])) (by simp [hx, hy]) (by omega) hp
theorem fd_numV (w : World) {wB : World} {g : Nat} {k : List Nat} {m : MG} {s : ML} {N : Nat} (h : FD wB g k m s N w) (hm : MR wB m s) (hxs : ∀ x ∈ m.vers, x < 4611686018427387904) (hN : N + 8 * s.vs.n ≤ 1099511627776) :
    Calls Tryd.prog 58 #[.pointer (some ⟨g, 0, none⟩), .slice s.vs.a s.vs.n s.vs.c] w fun e w' => e = .returned (.tuple #[]) ∧ FD wB g k m s (N + 8 * s.vs.n) w' := by
  refine fd_num w h (hm.vs.below h.bel (Nat.le_refl _)) hxs hN fun n a c hp hln ad had => ?_
  have hlt := hm.vs.lt' hln had
  obtain ⟨vs, ho⟩ := hp.ow
  exact ⟨fun he => by have := hp.hg; omega, fun ag hag he => by have := (ho.base_le hag).1; omega⟩
/-- what is appended to the pen's row -/
theorem FD.app {wB w w2 : World} {g : Nat} {k : List Nat} {m : MG} {s : ML} {n n2 : Nat} {a a2 : Option Addr} {c c2 : Nat} {vs vs2 : List Value} (hp : PN wB.heap.size w g n a c) (ho : OW w wB.heap.size 5 1 a n c vs) (hbox : ∀ j ∈ k, CR w j 31 (mgc m s) ∧ j ≠ g) (hb : Below wB.heap.size wB w)
    (ho2 : OW w2 wB.heap.size 5 1 a2 n2 c2 vs2) (hg : w.grownBy w2 (a.map (·.block))) (hv : ∃ xs : List UInt8, vs2 = xs.map B) {N : Nat} (hN : n2 ≤ N) : CR w2 g 89 [.slice a n c] ∧ FD wB g k m s N (w2.setCell ⟨g, 0, none⟩ (.slice a2 n2 c2)) ∧ ∀ j ∈ k, CR w2 j 31 (mgc m s) := by
  have hr : CR w2 g 89 [.slice a n c] := hp.row.keep (hg.block _ hp.row.lt (fun he => by obtain ⟨ad, h5, h6⟩ := Option.map_eq_some_iff.1 he.symm; exact hp.ap ad h5 h6))
  have hk : ∀ j ∈ k, CR w2 j 31 (mgc m s) := fun j hj => (hbox j hj).1.keep (hg.block _ (hbox j hj).1.lt (fun he => by obtain ⟨ad, h5, h6⟩ := Option.map_eq_some_iff.1 he.symm; exact ho.neCR (hbox j hj).1 (by decide) ad h5 h6))
  refine ⟨hr, ⟨⟨n2, a2, c2, hp.store hr ho2 hv, hN⟩, fun j hj => ⟨(hk j hj).keep (Below.heap_setCell _ _ _ _ (fun he => (hbox j hj).2 he)), (hbox j hj).2⟩, (below_own hb ho hg (Nat.le_refl _) hb.size).setCell hp.hg _⟩, hk⟩
/-- numbers that may be written, slices of the length that may be -/
structure FBd (m : MG) (s : ML) : Prop where
  id : m.id < 4611686018427387904
  alias : m.alias < 4611686018427387904
  sg : m.sg < 4611686018427387904
  so : m.so < 4611686018427387904
  eg : m.eg < 4611686018427387904
  eo : m.eo < 4611686018427387904
  code : m.code < 4611686018427387904
  n : m.n < 4611686018427387904
  ver : m.ver < 4611686018427387904
  vers : ∀ x ∈ m.vers, x < 4611686018427387904
  l1 : s.nm.n ≤ 100
  l2 : s.rs.n ≤ 100
  l3 : s.vs.n ≤ 100
end Go.Proofs.YtokgpnkooigamaaDoor
