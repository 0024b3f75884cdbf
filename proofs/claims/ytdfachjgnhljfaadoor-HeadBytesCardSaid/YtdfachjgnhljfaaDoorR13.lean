/- the reference's Same and Few of heads. -/
import Derived.Test.YtdfachjgnhljfaaDoorR9
set_option maxRecDepth 100000
set_option linter.unusedVariables false
namespace Go.Proofs.YtdfachjgnhljfaaDoor
open Go.RowKit
/-- Same: all alike -/
theorem hsame_any (w : World) (l1 : Bool) (v1 : Int) (p1 : Bool) (l2 : Bool) (v2 : Int) (p2 : Bool) {a b d e : Option Addr} {n c m k n2 c2 m2 k2 : Nat} {t1 f1 t2 f2 : List UInt8}
    (h1 : BS w a n c t1) (h2 : BS w b m k f1) (h3 : BS w d n2 c2 t2) (h4 : BS w e m2 k2 f2)
    (hl : l1 = l2) (hv : v1 = v2) (hp : p1 = p2) (ht : t1 = t2) (hf : f1 = f2) :
    Calls Tryd.prog 27 #[.agg #[.bool l1, .int .i64 v1, .bool p1, .slice a n c, .slice b m k], .agg #[.bool l2, .int .i64 v2, .bool p2, .slice d n2 c2, .slice e m2 k2]] w
      fun e' w' => e' = .returned (.bool true) ∧ Below w.heap.size w w' := by
  subst hl hv hp ht hf
  obtain ⟨o1, ho1⟩ : ∃ o1 : Obj, o1 = .cells #[.bool l1, .int .i64 v1, .bool p1, .slice a n c, .slice b m k] 40 := ⟨_, rfl⟩
  obtain ⟨o2, ho2⟩ : ∃ o2 : Obj, o2 = .cells #[.bool l1, .int .i64 v1, .bool p1, .slice d n2 c2, .slice e m2 k2] 40 := ⟨_, rfl⟩
  have h1' : BS ((w.alloc o1).alloc o2) a n c t1 := (h1.alloc _).alloc _
  have h2' : BS ((w.alloc o1).alloc o2) b m k f1 := (h2.alloc _).alloc _
  have h3' : BS ((w.alloc o1).alloc o2) d n2 c2 t1 := (h3.alloc _).alloc _
  have h4' : BS ((w.alloc o1).alloc o2) e m2 k2 f1 := (h4.alloc _).alloc _
  have hb := ((below_alloc w o1).alloc (by simp) o2)
  rw [ho1, ho2] at h1' h2' h3' h4' hb
  clear h1 h2 h3 h4 ho1 ho2
  go_enter Tryd.func27, Tryd.ntmps27
  go_wp2_with (go_at_call 19; first | ((with_reducible refine (same_any _ h1' h3').mono ?_); rintro e' w' ⟨rfl, rfl⟩) | ((with_reducible refine (same_any _ h2' h4').mono ?_); rintro e' w' ⟨rfl, rfl⟩))
  go_ret
  exact ⟨ret_true (by simp), hb⟩
end Go.Proofs.YtdfachjgnhljfaaDoor
