/- Messages: their cells; word.Less. -/
import Derived.Test.YtokgpnkooigamaaDoorTA
set_option maxRecDepth 100000
set_option linter.unusedVariables false
namespace Go.Proofs.YtokgpnkooigamaaDoor
open Go.RowKit
/-- where a slice lies -/
structure SA where
  a : Option Addr
  n : Nat
  c : Nat
def SA.v (s : SA) : Value := .slice s.a s.n s.c
/-- a message -/
structure MG where
  kind : Nat
  id : Nat
  alias : Nat
  name : List UInt8
  prio : Nat
  ord : Nat
  sg : Nat
  so : Nat
  eg : Nat
  eo : Nat
  some : Bool
  code : Nat
  reason : List UInt8
  n : Nat
  ver : Nat
  vers : List Nat
/-- where its slices lie -/
structure ML where
  nm : SA
  rs : SA
  vs : SA
def u64 (x : Nat) : Value := .int .u64 (x : Int)
def mgc (m : MG) (s : ML) : List Value := [u64 m.kind, u64 m.id, u64 m.alias, s.nm.v, .int .u8 (m.prio : Int), .int .u8 (m.ord : Int), u64 m.sg, u64 m.so, u64 m.eg, u64 m.eo, .bool m.some, u64 m.code, s.rs.v, u64 m.n, u64 m.ver, s.vs.v]
theorem mgc_len (m : MG) (s : ML) : (mgc m s).length = 16 := rfl
theorem mgc_one (m : MG) (s : ML) : ∀ v ∈ mgc m s, v.oneCell' = true := by
  intro v hv
  simp [mgc, u64, SA.v] at hv
  rcases hv with rfl | rfl | rfl | rfl | rfl | rfl | rfl | rfl | rfl | rfl | rfl | rfl | rfl | rfl | rfl | rfl <;> rfl
theorem iMsg : (Tryd.prog.info? 31).map (·.size) = some 16 := by kernel_rfl
/-- a row of cells -/
def CR (w : World) (g : Nat) (t : TypeId) (l : List Value) : Prop := w.heap[g]? = some (.cells l.toArray t (0, 0))
section
variable {w w' : World} {g : Nat} {t : TypeId} {l : List Value}
theorem CR.lt (h : CR w g t l) : g < w.heap.size := (Array.getElem?_eq_some_iff.1 h).1
theorem CR.keep (h : CR w g t l) (hk : w'.heap[g]? = w.heap[g]?) : CR w' g t l := by unfold CR; rw [hk]; exact h
theorem CR.bel (h : CR w g t l) (hb : Below w.heap.size w w') : CR w' g t l := h.keep (hb.block _ h.lt)
theorem CR.at_ (h : CR w g t l) (i : Nat) : w.cell? ⟨g, i, none⟩ = l[i]? := by unfold CR at h; simp [World.cell?, h]
theorem CR.fr (h : CR w g t l) (i : Nat) : w.frozen? ⟨g, i, none⟩ = false := by unfold CR at h; simp [World.frozen?, h]
theorem CR.rng (h : CR w g t l) : w.rangeAt g 0 l := fun j v hv => by rw [Nat.zero_add, h.at_]; exact hv
theorem CR.set (h : CR w g t l) (i : Nat) (v : Value) : CR (w.setCell ⟨g, i, none⟩ v) g t (l.set i v) := by
  unfold CR at h ⊢
  simp [World.setCell, Array.getElem?_modify, h]
theorem CR.new (w : World) (t : TypeId) (l : List Value) : CR (w.alloc (.cells l.toArray t)) w.heap.size t l := heap_alloc_new w _
end
/-- is a place ahead of another one? -/
def lessS (a b c d : Nat) : Bool := decide (a < c) || (decide (a = c) && decide (b < d))
theorem less_any (w : World) (a b c d : Nat) :
    Calls Tryd.prog 54 #[.agg #[u64 a, u64 b], .agg #[u64 c, u64 d]] w fun e w' => e = .returned (.bool (lessS a b c d)) ∧ Below w.heap.size w w' := by
  have hb := (below_alloc w (.cells #[u64 a, u64 b] 29)).alloc (by simp) (.cells #[u64 c, u64 d] 29)
  have HB := Lib.hid hb
  unfold u64 lessS at *
  clear hb
  by_cases h1 : a < c
  · have q1 : (a : Int) < (c : Int) := by omega
    go_enter Tryd.func54, Tryd.ntmps54
    go_wp2
    go_ret
    exact ⟨ret_bool (by simp [h1]), HB.out⟩
  · have q1 : ¬ ((a : Int) < (c : Int)) := by omega
    by_cases h2 : a = c
    · subst h2
      go_enter Tryd.func54, Tryd.ntmps54
      go_wp2
      go_ret
      exact ⟨ret_bool (by simp), HB.out⟩
    · have q2 : ¬ ((a : Int) = (c : Int)) := by omega
      go_enter Tryd.func54, Tryd.ntmps54
      go_wp2
      go_ret
      exact ⟨ret_bool (by simp []), HB.out⟩
end Go.Proofs.YtokgpnkooigamaaDoor
