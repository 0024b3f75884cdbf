/- quilt: the roles behind the first Put. -/
import Derived.Test.YteekafpkbdbadaaQC
set_option maxRecDepth 100000
set_option linter.unusedVariables false
namespace Go.Proofs.Yteekafpkbdbadaa.Pi
open Go.RowKit
section
variable {w wE : World} {role : Nat → Nat} {r qb : Nat}
theorem quz_one {N n c2 cD : Nat} {a2 aD : Option Addr} {p : List UInt8} (hr : role qb = r + 10) (hql : qb < w.heap.size) (G : w.grownBy wE (some qb)) (top : ∀ k, w.heap.size ≤ k → role k = 0)
    (hrow : CR wE qb 111 [.slice aD 1 cD, u64 0, u64 n, u64 n, .bool true]) (o2 : OW wE w.heap.size 5 1 a2 n c2 (p.map B)) (oD : OW wE N 113 2 aD 1 cD [.int .u64 0, .slice a2 n c2]) (hN : w.heap.size ≤ N) (h2 : ∀ ad, a2 = some ad → ad.block < N) (h0 : 0 < n) :
    ∃ role', QuZ wE role' r qb ⟨[(0, p)], 0, n, n, true⟩ ∧ Stq (fun x => r + 10 ≤ x ∧ x ≤ r + 12) w wE role role' := by
  rcases o2.shape with ⟨e1, e2, _⟩ | ⟨b2, cur2, e1, s1, s2, s3, s4, s5, s6, s7⟩
  · omega
  rcases oD.shape with ⟨e3, e4, _⟩ | ⟨bD, curD, e3, t1, t2, t3, t4, t5, t6, t7⟩
  · omega
  have hb2 : b2 < N := h2 _ e1
  have hne : b2 ≠ bD := by omega
  have hq2 : qb ≠ b2 := by omega
  have hqD : qb ≠ bD := by omega
  refine ⟨upd (upd role b2 (r + 12)) bD (r + 11), ⟨⟨aD, 1, cD⟩, [.int .u64 0, .slice a2 n c2], ⟨hrow, by rw [upd_ne hqD, upd_ne hq2]; exact hr⟩, ⟨oD.rs, fun ad had => ?_, fun ad had => ?_⟩, ?_, fun hh => absurd hh (by show ¬ n = 0; omega)⟩, ?_⟩
  · rw [e3] at had; cases had; exact upd_same _ _ _
  · rw [e3] at had; cases had
    exact ⟨rfl, curD, t3, by show 0 + cD * 2 ≤ _; omega⟩
  · refine PaC.cons (s := ⟨a2, n, c2⟩) o2.rs (fun ad had => ?_) .nil
    have had' : a2 = some ad := had
    rw [e1] at had'; cases had'
    exact ⟨by show upd _ bD _ b2 = _; rw [upd_ne hne, upd_same], s2⟩
  · refine ⟨⟨G.os, G.tape, G.output, G.size, fun k hk hn => G.block k hk (fun he => by injection he with he; subst he; exact hn ⟨by omega, by omega⟩), fun k hk => ?_⟩, fun k hk => ?_, fun k hk => ?_⟩
    · rw [upd_ne (by omega), upd_ne (by omega)]
    · by_cases h : k = bD
      · subst h; rw [upd_same]; exact .inr ⟨by omega, by omega⟩
      · rw [upd_ne h]
        by_cases h' : k = b2
        · subst h'; rw [upd_same]; exact .inr ⟨by omega, by omega⟩
        · rw [upd_ne h']; exact .inl (top k hk)
    · have := G.size
      rw [upd_ne (by omega), upd_ne (by omega)]; exact top k (by omega)
end
end Go.Proofs.Yteekafpkbdbadaa.Pi
