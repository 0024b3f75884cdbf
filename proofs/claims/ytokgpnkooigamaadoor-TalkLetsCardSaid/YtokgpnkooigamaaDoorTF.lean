/- word.bare at any parts; word.right: what is refused ahead of its switch. -/
import Derived.Test.YtokgpnkooigamaaDoorTE
set_option maxRecDepth 100000
set_option linter.unusedVariables false
namespace Go.Proofs.YtokgpnkooigamaaDoor
open Go.RowKit
def bit (p b : Nat) : Bool := p / b % 2 == 1
def bareM (p : Nat) (m : MG) : MG := ⟨0, if bit p 1 then 0 else m.id, if bit p 2 then 0 else m.alias, if bit p 4 then [] else m.name, if bit p 8 then 0 else m.prio, if bit p 16 then 0 else m.ord, if bit p 32 then 0 else m.sg, if bit p 32 then 0 else m.so, if bit p 64 || bit p 128 then 0 else m.eg, if bit p 64 || bit p 128 then 0 else m.eo, if bit p 256 then false else m.some, if bit p 512 then 0 else m.code, if bit p 1024 then [] else m.reason, if bit p 2048 then 0 else m.n, if bit p 4096 then 0 else m.ver, if bit p 8192 then [] else m.vers⟩
def SA0 : SA := ⟨none, 0, 0⟩
def bareL (p : Nat) (s : ML) : ML := ⟨if bit p 4 then SA0 else s.nm, if bit p 1024 then SA0 else s.rs, if bit p 8192 then SA0 else s.vs⟩
def PSn : List Nat := [191, 289, 1537, 5, 1, 4, 0, 2048, 109, 10240, 6144]
theorem parts_mem {k p : Nat} (h : partsS k = some p) : p ∈ PSn := by
  unfold partsS at h
  rw [Option.map_eq_some_iff] at h
  obtain ⟨x, hx, rfl⟩ := h
  have hm := List.mem_of_find?_eq_some hx
  have : ∀ y ∈ kindT, y.2 ∈ PSn := by decide
  exact this x hm
theorem bare_any (w : World) (m : MG) (s : ML) (p : Nat) (hp : p ∈ PSn) :
    Calls Tryd.prog 53 #[.agg (mgc m s).toArray, .int .i64 (p : Int)] w fun e w' => e = .returned (.agg (mgc (bareM p m) (bareL p s)).toArray) ∧ Below w.heap.size w w' := by
  unfold PSn at hp
  simp only [List.mem_cons, List.not_mem_nil, or_false] at hp
  rcases hp with rfl | rfl | rfl | rfl | rfl | rfl | rfl | rfl | rfl | rfl | rfl
  · exact (bare_191 w m s).mono fun e w' h => h
  · exact (bare_289 w m s).mono fun e w' h => h
  · exact (bare_1537 w m s).mono fun e w' h => h
  · exact (bare_5 w m s).mono fun e w' h => h
  · exact (bare_1 w m s).mono fun e w' h => h
  · exact (bare_4 w m s).mono fun e w' h => h
  · exact (bare_0 w m s).mono fun e w' h => h
  · exact (bare_2048 w m s).mono fun e w' h => h
  · exact (bare_109 w m s).mono fun e w' h => h
  · exact (bare_10240 w m s).mono fun e w' h => h
  · exact (bare_6144 w m s).mono fun e w' h => h
/-- numbers as wide as they may be, slices not too long -/
structure MR (w : World) (m : MG) (s : ML) : Prop where
  b : MB m
  nm : BS w s.nm.a s.nm.n s.nm.c m.name
  rs : BS w s.rs.a s.rs.n s.rs.c m.reason
  vs : RS w 1 s.vs.a s.vs.n s.vs.c (US m.vers)
  l1 : s.nm.n ≤ 1099511627776
  l2 : s.rs.n ≤ 1099511627776
  l3 : s.vs.n ≤ 1099511627776
theorem MR.bel {w w' : World} {N : Nat} {m : MG} {s : ML} (h : MR w m s) (hb : Below N w w') (hN : w.heap.size ≤ N) : MR w' m s :=
  ⟨h.b, h.nm.below hb hN, h.rs.below hb hN, h.vs.below hb hN, h.l1, h.l2, h.l3⟩
theorem MR.n1 {w : World} {m : MG} {s : ML} (h : MR w m s) : m.name.length = s.nm.n := BS.len h.nm
theorem MR.n2 {w : World} {m : MG} {s : ML} (h : MR w m s) : m.reason.length = s.rs.n := BS.len h.rs
theorem MR.n3 {w : World} {m : MG} {s : ML} (h : MR w m s) : m.vers.length = s.vs.n := by have := h.vs.len; simpa [US] using this
def emptyM (m : MG) : Bool := decide (m.id ||| m.alias ||| m.code ||| m.n ||| m.ver = 0 ∧ m.name.length + m.reason.length + m.vers.length = 0 ∧ m.prio ||| m.ord = 0 ∧ (m.sg = 0 ∧ m.so = 0) ∧ (m.eg = 0 ∧ m.eo = 0) ∧ m.some = false)
theorem MB.bare {m : MG} (h : MB m) (p : Nat) : MB (bareM p m) := by
  obtain ⟨h1, h2, h3, h4, h5, h6, h7, h8, h9, h10, h11, h12⟩ := h
  constructor <;> simp only [bareM] <;> first | omega | (split <;> omega)
theorem emptyS_bare {w : World} {m : MG} {s : ML} (h : MR w m s) (p : Nat) : emptyS (bareM p m) (bareL p s) = emptyM (bareM p m) := by
  have e1 : (bareL p s).nm.n = (bareM p m).name.length := by
    simp only [bareL, bareM]; split <;> simp [SA0, h.n1]
  have e2 : (bareL p s).rs.n = (bareM p m).reason.length := by
    simp only [bareL, bareM]; split <;> simp [SA0, h.n2]
  have e3 : (bareL p s).vs.n = (bareM p m).vers.length := by
    simp only [bareL, bareM]; split <;> simp [SA0, h.n3]
  unfold emptyS emptyM
  rw [e1, e2, e3]
theorem empty_bare (w : World) {w0 : World} {m : MG} {s : ML} (h : MR w0 m s) (p : Nat) :
    Calls Tryd.prog 52 #[.agg (mgc (bareM p m) (bareL p s)).toArray] w fun e w' => e = .returned (.bool (emptyM (bareM p m))) ∧ Below w.heap.size w w' := by
  rw [← emptyS_bare h p]
  refine empty_any w _ _ (h.b.bare p) ?_ ?_ ?_
  · have := h.l1; simp only [bareL]; split <;> first | exact this | (unfold SA0; simp)
  · have := h.l2; simp only [bareL]; split <;> first | exact this | (unfold SA0; simp)
  · have := h.l3; simp only [bareL]; split <;> first | exact this | (unfold SA0; simp)
def maxM (m : MG) : Nat := max (max (max (max (max (max (max (max m.id m.alias) m.code) m.n) m.ver) m.sg) m.so) m.eg) m.eo
theorem L_max9 {w : World} {ops : Array Oper} {rest : List Oper} {o : Oper} {f : Act} {Q : Exit → Act → World → Prop} {ts : Array TypeId} {x1 x2 x3 x4 x5 x6 x7 x8 x9 : Operand} (hop : o.op = .call { callee := .builtin .max, args := #[x1, x2, x3, x4, x5, x6, x7, x8, x9], argTypes := ts }) (hg : Region.wanted o (yielded ops f.tmps) = true) (m : MG)
    (e1 : f.eval x1 = .int .u64 (m.id : Int)) (e2 : f.eval x2 = .int .u64 (m.alias : Int)) (e3 : f.eval x3 = .int .u64 (m.code : Int)) (e4 : f.eval x4 = .int .u64 (m.n : Int)) (e5 : f.eval x5 = .int .u64 (m.ver : Int)) (e6 : f.eval x6 = .int .u64 (m.sg : Int)) (e7 : f.eval x7 = .int .u64 (m.so : Int)) (e8 : f.eval x8 = .int .u64 (m.eg : Int)) (e9 : f.eval x9 = .int .u64 (m.eo : Int))
    (X : Nat) (hX : maxM m = X) (h : wpList Tryd.prog ops Q rest (f.put o.dst (.int .u64 (X : Int))) w) : wpList Tryd.prog ops Q (o :: rest) f w := by
  refine wpList_on hg fun K hK => ?_
  unfold Oper.wp
  simp only [execOp, hop, resolve, invoke, builtin, Sem.run_bind, Sem.run_pure, Result.andThen_ok, List.map_toArray, List.map_cons, List.map_nil, e1, e2, e3, e4, e5, e6, e7, e8, e9, max9]
  have : maxM m = max (max (max (max (max (max (max (max m.id m.alias) m.code) m.n) m.ver) m.sg) m.so) m.eg) m.eo := rfl
  rw [← this, hX]
  exact hK _ _ h
theorem L_loadG {w : World} {ops : Array Oper} {rest : List Oper} {o : Oper} {f : Act} {Q : Exit → Act → World → Prop} (ty : TypeId) (x : Operand) (ho : o.op = .load ty x) (hg : Region.wanted o (yielded ops f.tmps) = true)
    (b i : Nat) (hx : f.eval x = .pointer (some ⟨b, i, none⟩)) (cs : List Value) (d : TypeDesc) (hc : w.rangeAt b i cs) (hu : Tryd.prog.underlying ty = some d) (hd : d.isRow = true) (hi : (Tryd.prog.info? ty).map (·.size) = some cs.length)
    (h : wpList Tryd.prog ops Q rest (f.put o.dst (.agg cs.toArray)) w) : wpList Tryd.prog ops Q (o :: rest) f w :=
  wpList_on hg fun K hK => wp_load_mid ty x ho b i hx cs d hc hu hd hi (hK _ _ h)
set_option maxHeartbeats 4000000 in
theorem right_none (w : World) (m : MG) (s : ML) (hK : KA w) (hp : partsS m.kind = none) :
    Calls Tryd.prog 45 #[.agg (mgc m s).toArray] w fun e w' => e = .returned (.bool false) ∧ Below w.heap.size w w' := by
  have hb := below_alloc w (.cells (mgc m s).toArray 31)
  have hR := CR.new w 31 (mgc m s)
  obtain ⟨w1, hw1⟩ : ∃ x, w.alloc (.cells (mgc m s).toArray 31) = x := ⟨_, rfl⟩
  obtain ⟨k, hk⟩ : ∃ k, w.heap.size = k := ⟨_, rfl⟩
  rw [hw1, hk] at hR
  rw [hw1] at hb
  have hpa := parts_any w1 m.kind (hK.bel hb (Nat.le_refl _))
  rw [hp] at hpa
  have Hpa := Lib.hid hpa
  have HB := Lib.hid hb
  have u0 : w1.cell? ⟨k, 0, none⟩ = some (.int .u64 (m.kind : Int)) := hR.at_ 0
  clear hb hR hpa hK hp
  unfold mgc u64 SA.v at hw1 ⊢
  go_enter Tryd.func45, Tryd.ntmps45
  go_wp2_with (go_at_call 46; refine Hpa.out.mono ?_; rintro y w2 ⟨rfl, B2⟩)
  go_ret
  exact ⟨rfl, btr HB.out B2⟩
end Go.Proofs.YtokgpnkooigamaaDoor
