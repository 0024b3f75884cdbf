/- texts WB WC in one. -/
import Derived.Test.YtkhcpnmbhbhcgaaDoorYav
import Derived.Deep.MidRow

/- greet.Machine in memory: one row of 273 cells, and the slices that it holds. -/
set_option maxRecDepth 100000
set_option linter.unusedVariables false
namespace Go.Proofs.YtkhcpnmbhbhcgaaDoor
open Go.RowKit
/-- where a slice lies -/
structure SA where
  a : Option Addr
  n : Nat
  c : Nat
def SA.v (s : SA) : Value := .slice s.a s.n s.c
/-- the two secrets of a level -/
structure PairS where
  c : List UInt8
  s : List UInt8
  there : Bool
/-- a machine, plainly -/
structure MS where
  server : Bool
  rnd : List UInt8
  id : List UInt8
  sec : List UInt8
  par : List UInt8
  said : List UInt8
  o0 : List UInt8
  o1 : List UInt8
  i0 : List UInt8
  i1 : List UInt8
  nx : List (Nat × Nat)
  hand : List UInt8
  k0 : PairS
  k1 : PairS
  k2 : PairS
  peer : List UInt8
  came : Bool
  done : Bool
  wrong : Nat
/-- where its slices lie -/
structure MA where
  id : SA
  sec : SA
  par : SA
  said : SA
  o0 : SA
  o1 : SA
  i0 : SA
  i1 : SA
  nx : SA
  pe : SA
structure MS.Ok (S : MS) : Prop where
  rnd : S.rnd.length = 32
  hand : S.hand.length = 32
  k0c : S.k0.c.length = 32
  k0s : S.k0.s.length = 32
  k1c : S.k1.c.length = 32
  k1s : S.k1.s.length = 32
  k2c : S.k2.c.length = 32
  k2s : S.k2.s.length = 32
def pc (p : PairS) : List Value := p.c.map B ++ p.s.map B ++ [.bool p.there]
def mc (S : MS) (A : MA) : List Value :=
  [.bool S.server, A.id.v, A.sec.v, A.par.v] ++ S.rnd.map B ++ [A.said.v, A.o0.v, A.o1.v, A.i0.v, A.i1.v, A.nx.v] ++ S.hand.map B ++ pc S.k0 ++ pc S.k1 ++ pc S.k2 ++ [A.pe.v, .bool S.came, .bool S.done, .int .u64 (S.wrong : Int)]
theorem mc_len {S : MS} (h : S.Ok) (A : MA) : (mc S A).length = 273 := by
  simp [mc, pc, h.rnd, h.hand, h.k0c, h.k0s, h.k1c, h.k1s, h.k2c, h.k2s]
/-- the cells of one value each -/
structure McG (S : MS) (A : MA) (f : Nat → Option Value) : Prop where
  g0 : f 0 = some (.bool S.server)
  g1 : f 1 = some (.slice A.id.a A.id.n A.id.c)
  g2 : f 2 = some (.slice A.sec.a A.sec.n A.sec.c)
  g3 : f 3 = some (.slice A.par.a A.par.n A.par.c)
  g36 : f 36 = some (.slice A.said.a A.said.n A.said.c)
  g37 : f 37 = some (.slice A.o0.a A.o0.n A.o0.c)
  g38 : f 38 = some (.slice A.o1.a A.o1.n A.o1.c)
  g39 : f 39 = some (.slice A.i0.a A.i0.n A.i0.c)
  g40 : f 40 = some (.slice A.i1.a A.i1.n A.i1.c)
  g41 : f 41 = some (.slice A.nx.a A.nx.n A.nx.c)
  g203 : f 203 = some (.bool S.k1.there)
  g269 : f 269 = some (.slice A.pe.a A.pe.n A.pe.c)
  g270 : f 270 = some (.bool S.came)
  g271 : f 271 = some (.bool S.done)
  g272 : f 272 = some (.int .u64 (S.wrong : Int))
theorem mc_get {S : MS} (h : S.Ok) (A : MA) : McG S A (fun i => (mc S A)[i]?) := by
  constructor <;> simp [mc, pc, SA.v, h.rnd, h.hand, h.k0c, h.k0s, h.k1c, h.k1s, h.k2c, h.k2s]
/-- the machine's row -/
def MZ (w : World) (g : Nat) (S : MS) (A : MA) : Prop := w.heap[g]? = some (.cells (mc S A).toArray 76 (0, 0))
theorem MZ.lt {w : World} {g : Nat} {S : MS} {A : MA} (h : MZ w g S A) : g < w.heap.size := (Array.getElem?_eq_some_iff.1 h).1
theorem MZ.at_ {w : World} {g : Nat} {S : MS} {A : MA} (h : MZ w g S A) (i : Nat) : w.cell? ⟨g, i, none⟩ = (mc S A)[i]? := by
  unfold MZ at h; simp [World.cell?, h]
theorem MZ.fr {w : World} {g : Nat} {S : MS} {A : MA} (h : MZ w g S A) (i : Nat) : w.frozen? ⟨g, i, none⟩ = false := by
  unfold MZ at h; simp [World.frozen?, h]
theorem MZ.cells {w : World} {g : Nat} {S : MS} {A : MA} (h : MZ w g S A) (ho : S.Ok) : McG S A (fun i => w.cell? ⟨g, i, none⟩) := by
  have e : (fun i => w.cell? ⟨g, i, none⟩) = fun i => (mc S A)[i]? := funext h.at_
  rw [e]; exact mc_get ho A
theorem MZ.keep {w w' : World} {g : Nat} {S : MS} {A : MA} (h : MZ w g S A) (hk : w'.heap[g]? = w.heap[g]?) : MZ w' g S A := by unfold MZ; rw [hk]; exact h
/-- a cell is set -/
theorem MZ.set {w : World} {g : Nat} {S S' : MS} {A A' : MA} (h : MZ w g S A) (i : Nat) (v : Value) (he : (mc S A).set i v = mc S' A') : MZ (w.setCell ⟨g, i, none⟩ v) g S' A' := by
  unfold MZ at h ⊢; rw [← he]; simp [World.setCell, Array.getElem?_modify, h]
/-- cells one behind the other are set -/
theorem heap_setRun (g : Nat) (t : TypeId) : ∀ (d vs : List Value) (o : Nat) (w : World), w.heap[g]? = some (.cells vs.toArray t (0, 0)) → o + d.length ≤ vs.length →
    (w.setCells g o d).heap[g]? = some (.cells (vs.take o ++ d ++ vs.drop (o + d.length)).toArray t (0, 0))
  | [], vs, o, w, h, hl => by simp [World.setCells]; exact h
  | x :: d, vs, o, w, h, hl => by
    rw [List.length_cons] at hl
    have h0 : (w.setCell ⟨g, o, none⟩ x).heap[g]? = some (.cells (vs.set o x).toArray t (0, 0)) := by simp [World.setCell, Array.getElem?_modify, h]
    have h1 := heap_setRun g t d (vs.set o x) (o + 1) _ h0 (by rw [List.length_set]; omega)
    rw [World.setCells, h1]
    congr 3
    rw [List.take_add_one, List.take_set_of_le (Nat.le_refl _), List.getElem?_set_self (by omega), List.drop_set_of_lt (by omega), List.length_cons, show o + 1 + d.length = o + (d.length + 1) by omega]
    simp
theorem MZ.run {w : World} {g : Nat} {S S' : MS} {A A' : MA} (h : MZ w g S A) (ho : S.Ok) (pre old post d : List Value) (i n : Nat) (hi : pre.length = i) (hn : old.length = n) (hd : d.length = n) (he : mc S A = pre ++ old ++ post) (he' : mc S' A' = pre ++ d ++ post) : MZ (w.setCells g i d) g S' A' := by
  have hl := congrArg List.length he
  rw [List.length_append, List.length_append] at hl
  have h1 := heap_setRun g _ d _ i w h (by omega)
  have e1 : (pre ++ old ++ post).take i = pre := by rw [List.append_assoc, ← hi, List.take_left]
  have e2 : (pre ++ old ++ post).drop (i + d.length) = post := by rw [hd, ← hn, ← hi, ← List.length_append, List.drop_left]
  unfold MZ
  rw [h1, he, e1, e2, he']
/-! the cells set, each -/
section
variable {w : World} {g : Nat} {S : MS} {A : MA}
theorem MZ.s_id (h : MZ w g S A) (ho : S.Ok) (a : Option Addr) (n c : Nat) (x : MS) (hx : mc x { A with id := ⟨a, n, c⟩ } = mc S { A with id := ⟨a, n, c⟩ }) : MZ (w.setCell ⟨g, 1, none⟩ (.slice a n c)) g x { A with id := ⟨a, n, c⟩ } := by
  refine h.set 1 _ ?_
  rw [hx]
  simp [mc, SA.v]
theorem MZ.s_sec (h : MZ w g S A) (ho : S.Ok) (a : Option Addr) (n c : Nat) (x : MS) (hx : mc x { A with sec := ⟨a, n, c⟩ } = mc S { A with sec := ⟨a, n, c⟩ }) : MZ (w.setCell ⟨g, 2, none⟩ (.slice a n c)) g x { A with sec := ⟨a, n, c⟩ } := by
  refine h.set 2 _ ?_
  rw [hx]
  simp [mc, SA.v]
theorem MZ.s_par (h : MZ w g S A) (ho : S.Ok) (a : Option Addr) (n c : Nat) (x : MS) (hx : mc x { A with par := ⟨a, n, c⟩ } = mc S { A with par := ⟨a, n, c⟩ }) : MZ (w.setCell ⟨g, 3, none⟩ (.slice a n c)) g x { A with par := ⟨a, n, c⟩ } := by
  refine h.set 3 _ ?_
  rw [hx]
  simp [mc, SA.v]
theorem MZ.s_said (h : MZ w g S A) (ho : S.Ok) (a : Option Addr) (n c : Nat) (x : MS) (hx : mc x { A with said := ⟨a, n, c⟩ } = mc S { A with said := ⟨a, n, c⟩ }) : MZ (w.setCell ⟨g, 36, none⟩ (.slice a n c)) g x { A with said := ⟨a, n, c⟩ } := by
  refine h.set 36 _ ?_
  rw [hx]
  simp [mc, SA.v, ho.rnd]
theorem MZ.s_o0 (h : MZ w g S A) (ho : S.Ok) (a : Option Addr) (n c : Nat) (x : MS) (hx : mc x { A with o0 := ⟨a, n, c⟩ } = mc S { A with o0 := ⟨a, n, c⟩ }) : MZ (w.setCell ⟨g, 37, none⟩ (.slice a n c)) g x { A with o0 := ⟨a, n, c⟩ } := by
  refine h.set 37 _ ?_
  rw [hx]
  simp [mc, SA.v, ho.rnd]
theorem MZ.s_o1 (h : MZ w g S A) (ho : S.Ok) (a : Option Addr) (n c : Nat) (x : MS) (hx : mc x { A with o1 := ⟨a, n, c⟩ } = mc S { A with o1 := ⟨a, n, c⟩ }) : MZ (w.setCell ⟨g, 38, none⟩ (.slice a n c)) g x { A with o1 := ⟨a, n, c⟩ } := by
  refine h.set 38 _ ?_
  rw [hx]
  simp [mc, SA.v, ho.rnd]
theorem MZ.s_i0 (h : MZ w g S A) (ho : S.Ok) (a : Option Addr) (n c : Nat) (x : MS) (hx : mc x { A with i0 := ⟨a, n, c⟩ } = mc S { A with i0 := ⟨a, n, c⟩ }) : MZ (w.setCell ⟨g, 39, none⟩ (.slice a n c)) g x { A with i0 := ⟨a, n, c⟩ } := by
  refine h.set 39 _ ?_
  rw [hx]
  simp [mc, SA.v, ho.rnd]
theorem MZ.s_i1 (h : MZ w g S A) (ho : S.Ok) (a : Option Addr) (n c : Nat) (x : MS) (hx : mc x { A with i1 := ⟨a, n, c⟩ } = mc S { A with i1 := ⟨a, n, c⟩ }) : MZ (w.setCell ⟨g, 40, none⟩ (.slice a n c)) g x { A with i1 := ⟨a, n, c⟩ } := by
  refine h.set 40 _ ?_
  rw [hx]
  simp [mc, SA.v, ho.rnd]
theorem MZ.s_nx (h : MZ w g S A) (ho : S.Ok) (a : Option Addr) (n c : Nat) (x : MS) (hx : mc x { A with nx := ⟨a, n, c⟩ } = mc S { A with nx := ⟨a, n, c⟩ }) : MZ (w.setCell ⟨g, 41, none⟩ (.slice a n c)) g x { A with nx := ⟨a, n, c⟩ } := by
  refine h.set 41 _ ?_
  rw [hx]
  simp [mc, SA.v, ho.rnd]
theorem MZ.s_pe (h : MZ w g S A) (ho : S.Ok) (a : Option Addr) (n c : Nat) (x : MS) (hx : mc x { A with pe := ⟨a, n, c⟩ } = mc S { A with pe := ⟨a, n, c⟩ }) : MZ (w.setCell ⟨g, 269, none⟩ (.slice a n c)) g x { A with pe := ⟨a, n, c⟩ } := by
  refine h.set 269 _ ?_
  rw [hx]
  simp [mc, SA.v, pc, ho.rnd, ho.hand, ho.k0c, ho.k0s, ho.k1c, ho.k1s, ho.k2c, ho.k2s]
theorem MZ.s_came (h : MZ w g S A) (ho : S.Ok) (x : Bool) : MZ (w.setCell ⟨g, 270, none⟩ (.bool x)) g { S with came := x } A := by
  refine h.set 270 _ ?_
  simp [mc, pc, ho.rnd, ho.hand, ho.k0c, ho.k0s, ho.k1c, ho.k1s, ho.k2c, ho.k2s]
theorem MZ.s_done (h : MZ w g S A) (ho : S.Ok) (x : Bool) : MZ (w.setCell ⟨g, 271, none⟩ (.bool x)) g { S with done := x } A := by
  refine h.set 271 _ ?_
  simp [mc, pc, ho.rnd, ho.hand, ho.k0c, ho.k0s, ho.k1c, ho.k1s, ho.k2c, ho.k2s]
theorem MZ.s_wrong (h : MZ w g S A) (ho : S.Ok) (x : Nat) : MZ (w.setCell ⟨g, 272, none⟩ (.int .u64 (x : Int))) g { S with wrong := x } A := by
  refine h.set 272 _ ?_
  simp [mc, pc, ho.rnd, ho.hand, ho.k0c, ho.k0s, ho.k1c, ho.k1s, ho.k2c, ho.k2s]
theorem MZ.s_hand (h : MZ w g S A) (ho : S.Ok) (d : List UInt8) (hd : d.length = 32) : MZ (w.setCells g 42 (d.map B)) g { S with hand := d } A :=
  h.run ho ([.bool S.server, A.id.v, A.sec.v, A.par.v] ++ S.rnd.map B ++ [A.said.v, A.o0.v, A.o1.v, A.i0.v, A.i1.v, A.nx.v]) (S.hand.map B) (pc S.k0 ++ pc S.k1 ++ pc S.k2 ++ [A.pe.v, .bool S.came, .bool S.done, .int .u64 (S.wrong : Int)]) (d.map B) 42 32
    (by simp [ho.rnd]) (by simp [ho.hand]) (by simp [hd]) (by simp [mc]) (by simp [mc])
theorem MZ.s_k1 (h : MZ w g S A) (ho : S.Ok) (x : PairS) (hc : x.c.length = 32) (hs : x.s.length = 32) : MZ (w.setCells g 139 (pc x)) g { S with k1 := x } A :=
  h.run ho ([.bool S.server, A.id.v, A.sec.v, A.par.v] ++ S.rnd.map B ++ [A.said.v, A.o0.v, A.o1.v, A.i0.v, A.i1.v, A.nx.v] ++ S.hand.map B ++ pc S.k0) (pc S.k1) (pc S.k2 ++ [A.pe.v, .bool S.came, .bool S.done, .int .u64 (S.wrong : Int)]) (pc x) 139 65
    (by simp [pc, ho.rnd, ho.hand, ho.k0c, ho.k0s]) (by simp [pc, ho.k1c, ho.k1s]) (by simp [pc, hc, hs]) (by simp [mc]) (by simp [mc])
theorem MZ.s_k2 (h : MZ w g S A) (ho : S.Ok) (x : PairS) (hc : x.c.length = 32) (hs : x.s.length = 32) : MZ (w.setCells g 204 (pc x)) g { S with k2 := x } A :=
  h.run ho ([.bool S.server, A.id.v, A.sec.v, A.par.v] ++ S.rnd.map B ++ [A.said.v, A.o0.v, A.o1.v, A.i0.v, A.i1.v, A.nx.v] ++ S.hand.map B ++ pc S.k0 ++ pc S.k1) (pc S.k2) ([A.pe.v, .bool S.came, .bool S.done, .int .u64 (S.wrong : Int)]) (pc x) 204 65
    (by simp [pc, ho.rnd, ho.hand, ho.k0c, ho.k0s, ho.k1c, ho.k1s]) (by simp [pc, ho.k2c, ho.k2s]) (by simp [pc, hc, hs]) (by simp [mc]) (by simp [mc])
/-- a run of cells -/
theorem MZ.range (h : MZ w g S A) (pre mid post : List Value) (i : Nat) (hi : pre.length = i) (he : mc S A = pre ++ mid ++ post) : w.rangeAt g i mid := fun j v hv => by
  have hj := (List.getElem?_eq_some_iff.1 hv).1
  rw [h.at_, he, List.append_assoc, List.getElem?_append_right (by omega), List.getElem?_append_left (by omega), hi, Nat.add_sub_cancel_left]; exact hv
theorem MZ.r_rnd (h : MZ w g S A) : w.rangeAt g 4 (S.rnd.map B) := h.range [.bool S.server, A.id.v, A.sec.v, A.par.v] _ _ 4 rfl (by simp only [mc, List.append_assoc]; rfl)
theorem MZ.r_hand (h : MZ w g S A) (ho : S.Ok) : w.rangeAt g 42 (S.hand.map B) := h.range ([.bool S.server, A.id.v, A.sec.v, A.par.v] ++ S.rnd.map B ++ [A.said.v, A.o0.v, A.o1.v, A.i0.v, A.i1.v, A.nx.v]) _ _ 42 (by simp [ho.rnd]) (by simp only [mc, List.append_assoc]; rfl)
end
end Go.Proofs.YtkhcpnmbhbhcgaaDoor

/- greet.Machine: what a step of one of its functions leaves as it was. -/
set_option maxRecDepth 100000
set_option linter.unusedVariables false
namespace Go.Proofs.YtkhcpnmbhbhcgaaDoor
open Go.RowKit
def tcells (l : List (Nat × Nat)) : List Value := l.flatMap fun x => [.int .u8 (x.1 : Int), .int .i64 (x.2 : Int)]
/-- the slices: the machine's own rows have the roles 1 to 5, its row 6, what it only reads 7 -/
structure GP (w : World) (role : Nat → Nat) (g : Nat) (S : MS) (A : MA) : Prop where
  rg : role g = 6
  gl : g < w.heap.size
  top : ∀ k, w.heap.size ≤ k → role k = 0
  id : BS w A.id.a A.id.n A.id.c S.id
  idr : RB role 7 A.id.a
  sec : BS w A.sec.a A.sec.n A.sec.c S.sec
  secr : RB role 7 A.sec.a
  par : BS w A.par.a A.par.n A.par.c S.par
  parr : RB role 7 A.par.a
  pe : BS w A.pe.a A.pe.n A.pe.c S.peer
  per : RB role 7 A.pe.a
  nx : RS w 2 A.nx.a A.nx.n A.nx.c (tcells S.nx)
  nxr : RB role 7 A.nx.a
  said : OX w role 1 5 A.said.a A.said.n A.said.c (S.said.map B)
  o0 : OX w role 2 5 A.o0.a A.o0.n A.o0.c (S.o0.map B)
  o1 : OX w role 3 5 A.o1.a A.o1.n A.o1.c (S.o1.map B)
  i0 : OX w role 4 5 A.i0.a A.i0.n A.i0.c (S.i0.map B)
  i1 : OX w role 5 5 A.i1.a A.i1.n A.i1.c (S.i1.map B)
structure GM (w : World) (role : Nat → Nat) (g : Nat) (S : MS) (A : MA) : Prop where
  row : MZ w g S A
  ok : S.Ok
  gp : GP w role g S A
/-- what is nobody's here stays -/
structure Kpt (w w' : World) (role role' : Nat → Nat) : Prop where
  os : w'.os = w.os
  tape : w'.tape = w.tape
  output : w'.output = w.output
  size : w.heap.size ≤ w'.heap.size
  blk : ∀ k, k < w.heap.size → role k = 0 → w'.heap[k]? = w.heap[k]? ∧ role' k = 0
  top : ∀ k, w'.heap.size ≤ k → role' k = 0
theorem Kpt.refl (w : World) (role : Nat → Nat) (h : ∀ k, w.heap.size ≤ k → role k = 0) : Kpt w w role role := ⟨rfl, rfl, rfl, Nat.le_refl _, fun k _ h => ⟨rfl, h⟩, h⟩
theorem Kpt.trans {w w1 w2 : World} {r r1 r2 : Nat → Nat} (h : Kpt w w1 r r1) (k : Kpt w1 w2 r1 r2) : Kpt w w2 r r2 :=
  ⟨k.os.trans h.os, k.tape.trans h.tape, k.output.trans h.output, Nat.le_trans h.size k.size, fun j hj hr => by
    obtain ⟨h1, h2⟩ := h.blk j hj hr
    obtain ⟨h3, h4⟩ := k.blk j (Nat.lt_of_lt_of_le hj h.size) h2
    exact ⟨h3.trans h1, h4⟩, k.top⟩
theorem Stp.kpt {r : Nat} {w w' : World} {role role' : Nat → Nat} (h : Stp r w w' role role') (hr : r ≠ 0) : Kpt w w' role role' :=
  ⟨h.os, h.tape, h.output, h.size, fun k hk h0 => ⟨h.blk k hk (by omega), (h.old k hk).trans h0⟩, h.top⟩
theorem Below.kpt {w w' : World} {role : Nat → Nat} (h : Below w.heap.size w w') (ht : ∀ k, w.heap.size ≤ k → role k = 0) : Kpt w w' role role :=
  ⟨h.os, h.tape, h.output, h.size, fun k hk h0 => ⟨h.block k hk, h0⟩, fun k hk => ht k (Nat.le_trans h.size hk)⟩
theorem RB.nez {role : Nat → Nat} {r : Nat} {a : Option Addr} (h : RB role r a) {k : Nat} (hk : role k ≠ r) : ∀ ad, a = some ad → ad.block ≠ k := fun ad ha he => hk (by rw [← he]; exact h ad ha)
/-- one cell of the machine's row is set: the slices stay -/
theorem GP.cell {w : World} {role : Nat → Nat} {g : Nat} {S : MS} {A : MA} (h : GP w role g S A) (i : Nat) (v : Value) : GP (w.setCell ⟨g, i, none⟩ v) role g S A := by
  have hg := grownBy_setCell w ⟨g, i, none⟩ v
  have hne : ∀ {r : Nat} {a : Option Addr}, RB role r a → r ≠ 6 → ∀ ad, a = some ad → some ad.block ≠ some g := fun hr h6 ad ha he => by
    have := hr ad ha
    injection he with he
    rw [he, h.rg] at this; omega
  have hox : ∀ {r n c : Nat} {a : Option Addr} {vs : List Value}, OX w role r 5 a n c vs → r ≠ 6 → OX (w.setCell ⟨g, i, none⟩ v) role r 5 a n c vs := fun ho h6 =>
    ⟨ho.rs.grown hg (hne ho.rb h6), ho.rb, fun ad ha => by
      obtain ⟨h1, cur, h2, h3⟩ := ho.own ad ha
      exact ⟨h1, cur, by rw [hg.block _ (ho.lt ha) (hne ho.rb h6 ad ha)]; exact h2, h3⟩⟩
  have hs : (w.setCell ⟨g, i, none⟩ v).heap.size = w.heap.size := by simp [World.setCell]
  exact ⟨h.rg, by rw [hs]; exact h.gl, by rw [hs]; exact h.top, h.id.grown hg (hne h.idr (by omega)), h.idr, h.sec.grown hg (hne h.secr (by omega)), h.secr, h.par.grown hg (hne h.parr (by omega)), h.parr, h.pe.grown hg (hne h.per (by omega)), h.per,
    h.nx.grown hg (hne h.nxr (by omega)), h.nxr, hox h.said (by omega), hox h.o0 (by omega), hox h.o1 (by omega), hox h.i0 (by omega), hox h.i1 (by omega)⟩
theorem GP.run {role : Nat → Nat} {g : Nat} {S : MS} {A : MA} : ∀ (d : List Value) (i : Nat) (w : World), GP w role g S A → GP (w.setCells g i d) role g S A
  | [], i, w, h => h
  | v :: d, i, w, h => by rw [World.setCells]; exact GP.run d (i + 1) _ (h.cell i v)
/-- the row set: nothing of others turns -/
theorem kpt_row {w w' : World} {role : Nat → Nat} {g : Nat} (hg : w.grownBy w' (some g)) (hr : role g = 6) (hs : w'.heap.size = w.heap.size) (ht : ∀ k, w.heap.size ≤ k → role k = 0) : Kpt w w' role role :=
  ⟨hg.os, hg.tape, hg.output, hg.size, fun k hk h0 => ⟨hg.block k hk (fun h => by injection h with h; rw [h, hr] at h0; omega), h0⟩, fun k hk => ht k (by omega)⟩
theorem kpt_cell {w : World} {role : Nat → Nat} {g : Nat} (i : Nat) (v : Value) (hr : role g = 6) (ht : ∀ k, w.heap.size ≤ k → role k = 0) : Kpt w (w.setCell ⟨g, i, none⟩ v) role role :=
  kpt_row (grownBy_setCell w ⟨g, i, none⟩ v) hr (by simp [World.setCell]) ht
theorem kpt_run {w : World} {role : Nat → Nat} {g : Nat} (i : Nat) (d : List Value) (hr : role g = 6) (ht : ∀ k, w.heap.size ≤ k → role k = 0) : Kpt w (w.setCells g i d) role role :=
  kpt_row (grown_setCells g d i w) hr (size_setCells g d i w) ht
/-- a call of a function that makes new blocks only -/
theorem GP.below {w w' : World} {role : Nat → Nat} {g : Nat} {S : MS} {A : MA} (h : GP w role g S A) (hb : Below w.heap.size w w') : GP w' role g S A := by
  have hox : ∀ {r n c : Nat} {a : Option Addr} {vs : List Value}, OX w role r 5 a n c vs → OX w' role r 5 a n c vs := fun ho =>
    ⟨RS.below ho.rs hb (Nat.le_refl _), ho.rb, fun ad ha => by
      obtain ⟨h1, cur, h2, h3⟩ := ho.own ad ha
      exact ⟨h1, cur, by rw [hb.block _ (ho.lt ha)]; exact h2, h3⟩⟩
  have hs := hb.size
  exact ⟨h.rg, Nat.lt_of_lt_of_le h.gl hs, fun k hk => h.top k (Nat.le_trans hs hk), RS.below h.id hb (Nat.le_refl _), h.idr, RS.below h.sec hb (Nat.le_refl _), h.secr, RS.below h.par hb (Nat.le_refl _), h.parr, RS.below h.pe hb (Nat.le_refl _), h.per,
    RS.below h.nx hb (Nat.le_refl _), h.nxr, hox h.said, hox h.o0, hox h.o1, hox h.i0, hox h.i1⟩
theorem GM.below {w w' : World} {role : Nat → Nat} {g : Nat} {S : MS} {A : MA} (h : GM w role g S A) (hb : Below w.heap.size w w') : GM w' role g S A :=
  ⟨h.row.keep (hb.block _ h.gp.gl), h.ok, h.gp.below hb⟩
/-- another machine's step, or a caller's, that leaves all of this one's blocks -/
theorem GP.kept {w w' : World} {role : Nat → Nat} {g : Nat} {S : MS} {A : MA} (h : GP w role g S A) (hs : w.heap.size ≤ w'.heap.size) (hk : ∀ k, k < w.heap.size → role k ≠ 0 → w'.heap[k]? = w.heap[k]?) : GP w' role g S A := by
  have hrs : ∀ {z n c r : Nat} {a : Option Addr} {vs : List Value}, RS w z a n c vs → RB role r a → r ≠ 0 → RS w' z a n c vs := fun hr hb h0 => hr.keepb fun ad ha hl => hk _ hl (by rw [hb ad ha]; exact h0)
  have hox : ∀ {r n c : Nat} {a : Option Addr} {vs : List Value}, OX w role r 5 a n c vs → r ≠ 0 → OX w' role r 5 a n c vs := fun ho h0 =>
    ⟨hrs ho.rs ho.rb h0, ho.rb, fun ad ha => by
      obtain ⟨h1, cur, h2, h3⟩ := ho.own ad ha
      exact ⟨h1, cur, by rw [hk _ (ho.lt ha) (by rw [ho.rb ad ha]; exact h0)]; exact h2, h3⟩⟩
  exact ⟨h.rg, Nat.lt_of_lt_of_le h.gl hs, fun k hk => h.top k (Nat.le_trans hs hk), hrs h.id h.idr (by omega), h.idr, hrs h.sec h.secr (by omega), h.secr, hrs h.par h.parr (by omega), h.parr, hrs h.pe h.per (by omega), h.per,
    hrs h.nx h.nxr (by omega), h.nxr, hox h.said (by omega), hox h.o0 (by omega), hox h.o1 (by omega), hox h.i0 (by omega), hox h.i1 (by omega)⟩
theorem GM.kept {w w' : World} {role : Nat → Nat} {g : Nat} {S : MS} {A : MA} (h : GM w role g S A) (hs : w.heap.size ≤ w'.heap.size) (hk : ∀ k, k < w.heap.size → role k ≠ 0 → w'.heap[k]? = w.heap[k]?) : GM w' role g S A :=
  ⟨h.row.keep (hk _ h.gp.gl (by rw [h.gp.rg]; omega)), h.ok, h.gp.kept hs hk⟩
/-- an append onto one of the rows: the row's slice is the new one -/
theorem GP.stp {w w' : World} {role role' : Nat → Nat} {r g : Nat} {S : MS} {A : MA} (h : GP w role g S A) (hs : Stp r w w' role role') (hr : 1 ≤ r ∧ r ≤ 5)
    (hS : ∀ r', r' ≠ r → True) : (∀ {z n c r' : Nat} {a : Option Addr} {vs : List Value}, RS w z a n c vs → RB role r' a → r' ≠ r → RS w' z a n c vs) ∧ (∀ {r' : Nat} {a : Option Addr}, RB role r' a → r' ≠ 0 → RB role' r' a) ∧ role' g = 6 ∧ g < w'.heap.size := by
  refine ⟨fun hx hb hne => hx.stp hs hb hne, fun {r'} {a} hb h0 ad ha => ?_, (hs.old g h.gl).trans h.rg, Nat.lt_of_lt_of_le h.gl hs.size⟩
  by_cases hl : ad.block < w.heap.size
  · exact (hs.old _ hl).trans (hb ad ha)
  · have := h.top _ (Nat.le_of_not_lt hl)
    rw [hb ad ha] at this; omega
theorem GP.s_said {w w' : World} {role role' : Nat → Nat} {g : Nat} {S : MS} {A : MA} (h : GP w role g S A) (hs : Stp 1 w w' role role') {a : Option Addr} {n c : Nat} {x : List UInt8} (ho : OX w' role' 1 5 a n c (x.map B)) :
    GP w' role' g { S with said := x } { A with said := ⟨a, n, c⟩ } := by
  obtain ⟨h1, h2, h3, h4⟩ := h.stp hs (by omega) (fun _ _ => trivial)
  have said := h.said
  have o0 := h.o0
  have o1 := h.o1
  have i0 := h.i0
  have i1 := h.i1
  exact ⟨h3, h4, hs.top, h1 h.id h.idr (by omega), h2 h.idr (by omega), h1 h.sec h.secr (by omega), h2 h.secr (by omega), h1 h.par h.parr (by omega), h2 h.parr (by omega), h1 h.pe h.per (by omega), h2 h.per (by omega), h1 h.nx h.nxr (by omega), h2 h.nxr (by omega),
    (by first | exact ho | exact said.stp hs (by omega)), (by first | exact ho | exact o0.stp hs (by omega)), (by first | exact ho | exact o1.stp hs (by omega)), (by first | exact ho | exact i0.stp hs (by omega)), (by first | exact ho | exact i1.stp hs (by omega))⟩
theorem GP.s_o0 {w w' : World} {role role' : Nat → Nat} {g : Nat} {S : MS} {A : MA} (h : GP w role g S A) (hs : Stp 2 w w' role role') {a : Option Addr} {n c : Nat} {x : List UInt8} (ho : OX w' role' 2 5 a n c (x.map B)) :
    GP w' role' g { S with o0 := x } { A with o0 := ⟨a, n, c⟩ } := by
  obtain ⟨h1, h2, h3, h4⟩ := h.stp hs (by omega) (fun _ _ => trivial)
  have said := h.said
  have o0 := h.o0
  have o1 := h.o1
  have i0 := h.i0
  have i1 := h.i1
  exact ⟨h3, h4, hs.top, h1 h.id h.idr (by omega), h2 h.idr (by omega), h1 h.sec h.secr (by omega), h2 h.secr (by omega), h1 h.par h.parr (by omega), h2 h.parr (by omega), h1 h.pe h.per (by omega), h2 h.per (by omega), h1 h.nx h.nxr (by omega), h2 h.nxr (by omega),
    (by first | exact ho | exact said.stp hs (by omega)), (by first | exact ho | exact o0.stp hs (by omega)), (by first | exact ho | exact o1.stp hs (by omega)), (by first | exact ho | exact i0.stp hs (by omega)), (by first | exact ho | exact i1.stp hs (by omega))⟩
theorem GP.s_o1 {w w' : World} {role role' : Nat → Nat} {g : Nat} {S : MS} {A : MA} (h : GP w role g S A) (hs : Stp 3 w w' role role') {a : Option Addr} {n c : Nat} {x : List UInt8} (ho : OX w' role' 3 5 a n c (x.map B)) :
    GP w' role' g { S with o1 := x } { A with o1 := ⟨a, n, c⟩ } := by
  obtain ⟨h1, h2, h3, h4⟩ := h.stp hs (by omega) (fun _ _ => trivial)
  have said := h.said
  have o0 := h.o0
  have o1 := h.o1
  have i0 := h.i0
  have i1 := h.i1
  exact ⟨h3, h4, hs.top, h1 h.id h.idr (by omega), h2 h.idr (by omega), h1 h.sec h.secr (by omega), h2 h.secr (by omega), h1 h.par h.parr (by omega), h2 h.parr (by omega), h1 h.pe h.per (by omega), h2 h.per (by omega), h1 h.nx h.nxr (by omega), h2 h.nxr (by omega),
    (by first | exact ho | exact said.stp hs (by omega)), (by first | exact ho | exact o0.stp hs (by omega)), (by first | exact ho | exact o1.stp hs (by omega)), (by first | exact ho | exact i0.stp hs (by omega)), (by first | exact ho | exact i1.stp hs (by omega))⟩
theorem GP.s_i0 {w w' : World} {role role' : Nat → Nat} {g : Nat} {S : MS} {A : MA} (h : GP w role g S A) (hs : Stp 4 w w' role role') {a : Option Addr} {n c : Nat} {x : List UInt8} (ho : OX w' role' 4 5 a n c (x.map B)) :
    GP w' role' g { S with i0 := x } { A with i0 := ⟨a, n, c⟩ } := by
  obtain ⟨h1, h2, h3, h4⟩ := h.stp hs (by omega) (fun _ _ => trivial)
  have said := h.said
  have o0 := h.o0
  have o1 := h.o1
  have i0 := h.i0
  have i1 := h.i1
  exact ⟨h3, h4, hs.top, h1 h.id h.idr (by omega), h2 h.idr (by omega), h1 h.sec h.secr (by omega), h2 h.secr (by omega), h1 h.par h.parr (by omega), h2 h.parr (by omega), h1 h.pe h.per (by omega), h2 h.per (by omega), h1 h.nx h.nxr (by omega), h2 h.nxr (by omega),
    (by first | exact ho | exact said.stp hs (by omega)), (by first | exact ho | exact o0.stp hs (by omega)), (by first | exact ho | exact o1.stp hs (by omega)), (by first | exact ho | exact i0.stp hs (by omega)), (by first | exact ho | exact i1.stp hs (by omega))⟩
theorem GP.s_i1 {w w' : World} {role role' : Nat → Nat} {g : Nat} {S : MS} {A : MA} (h : GP w role g S A) (hs : Stp 5 w w' role role') {a : Option Addr} {n c : Nat} {x : List UInt8} (ho : OX w' role' 5 5 a n c (x.map B)) :
    GP w' role' g { S with i1 := x } { A with i1 := ⟨a, n, c⟩ } := by
  obtain ⟨h1, h2, h3, h4⟩ := h.stp hs (by omega) (fun _ _ => trivial)
  have said := h.said
  have o0 := h.o0
  have o1 := h.o1
  have i0 := h.i0
  have i1 := h.i1
  exact ⟨h3, h4, hs.top, h1 h.id h.idr (by omega), h2 h.idr (by omega), h1 h.sec h.secr (by omega), h2 h.secr (by omega), h1 h.par h.parr (by omega), h2 h.parr (by omega), h1 h.pe h.per (by omega), h2 h.per (by omega), h1 h.nx h.nxr (by omega), h2 h.nxr (by omega),
    (by first | exact ho | exact said.stp hs (by omega)), (by first | exact ho | exact o0.stp hs (by omega)), (by first | exact ho | exact o1.stp hs (by omega)), (by first | exact ho | exact i0.stp hs (by omega)), (by first | exact ho | exact i1.stp hs (by omega))⟩
theorem GP.drew {w : World} {role : Nat → Nat} {g : Nat} {S : MS} {A : MA} (h : GP w role g S A) : GP w.drew role g S A :=
  ⟨h.rg, h.gl, h.top, h.id, h.idr, h.sec, h.secr, h.par, h.parr, h.pe, h.per, h.nx, h.nxr, ⟨h.said.rs, h.said.rb, h.said.own⟩, ⟨h.o0.rs, h.o0.rb, h.o0.own⟩, ⟨h.o1.rs, h.o1.rb, h.o1.own⟩, ⟨h.i0.rs, h.i0.rb, h.i0.own⟩, ⟨h.i1.rs, h.i1.rb, h.i1.own⟩⟩
theorem Kpt.drew {w w' : World} {role role' : Nat → Nat} (h : Kpt w w' role role') : Kpt w w'.drew role role' := ⟨h.os, h.tape, h.output, h.size, h.blk, h.top⟩
theorem GM.drew {w : World} {role : Nat → Nat} {g : Nat} {S : MS} {A : MA} (h : GM w role g S A) : GM w.drew role g S A := ⟨h.row, h.ok, h.gp.drew⟩
end Go.Proofs.YtkhcpnmbhbhcgaaDoor
