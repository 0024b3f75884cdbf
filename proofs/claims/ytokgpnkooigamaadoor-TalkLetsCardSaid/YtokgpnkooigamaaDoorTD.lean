/- word.empty: is nothing there? -/
import Derived.Test.YtokgpnkooigamaaDoorTC
import Derived.Lib.EndianBits
set_option maxRecDepth 100000
set_option linter.unusedVariables false
namespace Go.Proofs.YtokgpnkooigamaaDoor
open Go.RowKit
/-- numbers as wide as they may be -/
structure MB (m : MG) : Prop where
  kind : m.kind < 18446744073709551616
  id : m.id < 18446744073709551616
  alias : m.alias < 18446744073709551616
  prio : m.prio < 256
  ord : m.ord < 256
  sg : m.sg < 18446744073709551616
  so : m.so < 18446744073709551616
  eg : m.eg < 18446744073709551616
  eo : m.eo < 18446744073709551616
  code : m.code < 18446744073709551616
  n : m.n < 18446744073709551616
  ver : m.ver < 18446744073709551616
theorem or_n (a b : Nat) (ha : a < 18446744073709551616) (hb : b < 18446744073709551616) : bits .or .u64 (a : Int) (b : Int) = ((a ||| b : Nat) : Int) := u64_or_nat _ _ ha hb
theorem or_lt {a b : Nat} (ha : a < 18446744073709551616) (hb : b < 18446744073709551616) : a ||| b < 18446744073709551616 := by
  have := Nat.or_lt_two_pow (n := 64) (show a < 2 ^ 64 by omega) (show b < 2 ^ 64 by omega)
  omega
theorem or_8 (a b : Nat) (ha : a < 256) (hb : b < 256) : bits .or .u8 (a : Int) (b : Int) = ((a ||| b : Nat) : Int) := u8_or_nat _ _ ha hb
def emptyS (m : MG) (s : ML) : Bool := decide (m.id ||| m.alias ||| m.code ||| m.n ||| m.ver = 0 ∧ s.nm.n + s.rs.n + s.vs.n = 0 ∧ m.prio ||| m.ord = 0 ∧ (m.sg = 0 ∧ m.so = 0) ∧ (m.eg = 0 ∧ m.eo = 0) ∧ m.some = false)
set_option maxHeartbeats 4000000 in
theorem empty_any (w : World) (m : MG) (s : ML) (hm : MB m) (h1 : s.nm.n ≤ 1099511627776) (h2 : s.rs.n ≤ 1099511627776) (h3 : s.vs.n ≤ 1099511627776) :
    Calls Tryd.prog 52 #[.agg (mgc m s).toArray] w fun e w' => e = .returned (.bool (emptyS m s)) ∧ Below w.heap.size w w' := by
  have hb := below_alloc w (.cells (mgc m s).toArray 31)
  obtain ⟨E, hE⟩ : ∃ E, emptyS m s = E := ⟨_, rfl⟩
  rw [hE]
  obtain ⟨kind, id, alias, name, prio, ord, sg, so, eg, eo, sm, code, reason, n, ver, vers⟩ := m
  obtain ⟨⟨na, nn, nc⟩, ⟨ra, rn, rc⟩, ⟨va, vn, vc⟩⟩ := s
  obtain ⟨x1, hx1⟩ : ∃ x, id ||| alias ||| code ||| n ||| ver = x := ⟨_, rfl⟩
  obtain ⟨x2, hx2⟩ : ∃ x, prio ||| ord = x := ⟨_, rfl⟩
  have o1 : bits .or .u64 (bits .or .u64 (bits .or .u64 (bits .or .u64 (id : Int) (alias : Int)) (code : Int)) (n : Int)) (ver : Int) = (x1 : Int) := by
    have a1 := or_lt hm.id hm.alias
    have a2 := or_lt a1 hm.code
    have a3 := or_lt a2 hm.n
    rw [or_n _ _ hm.id hm.alias, or_n _ _ a1 hm.code, or_n _ _ a2 hm.n, or_n _ _ a3 hm.ver, hx1]
  have o2 : bits .or .u8 (prio : Int) (ord : Int) = (x2 : Int) := by rw [or_8 _ _ hm.prio hm.ord, hx2]
  unfold emptyS at hE
  simp only [] at hE h1 h2 h3
  rw [hx1, hx2] at hE
  unfold mgc u64 SA.v at *
  simp only [] at *
  have HB := Lib.hid hb
  have HE := Lib.hid hE
  clear hb hm hE hx1 hx2
  by_cases c1 : x1 = 0
  · subst c1
    obtain ⟨y, hy⟩ : ∃ y, nn + rn + vn = y := ⟨_, rfl⟩
    have HY := Lib.hid hy
    have hyi : (nn : Int) + (rn : Int) + (vn : Int) = (y : Int) := by omega
    clear hy
    by_cases c2 : y = 0
    · subst c2
      by_cases c3 : x2 = 0
      · subst c3
        by_cases d1 : sg = 0
        · subst d1
          by_cases d2 : so = 0
          · subst d2
            by_cases d3 : eg = 0
            · subst d3
              by_cases d4 : eo = 0
              · subst d4
                cases sm with
                | true =>
                  go_enter Tryd.func52, Tryd.ntmps52
                  go_wp2
                  go_ret
                  exact ⟨ret_bool (by rw [← HE.out, HY.out]; simp), HB.out⟩
                | false =>
                  go_enter Tryd.func52, Tryd.ntmps52
                  go_wp2
                  go_ret
                  exact ⟨ret_bool (by rw [← HE.out, HY.out]; simp), HB.out⟩
              · have d4i : ¬ ((eo : Int) = 0) := by omega
                go_enter Tryd.func52, Tryd.ntmps52
                go_wp2
                go_ret
                exact ⟨ret_bool (by rw [← HE.out, HY.out]; simp [d4]), HB.out⟩
            · have d3i : ¬ ((eg : Int) = 0) := by omega
              go_enter Tryd.func52, Tryd.ntmps52
              go_wp2
              go_ret
              exact ⟨ret_bool (by rw [← HE.out, HY.out]; simp [d3]), HB.out⟩
          · have d2i : ¬ ((so : Int) = 0) := by omega
            go_enter Tryd.func52, Tryd.ntmps52
            go_wp2
            go_ret
            exact ⟨ret_bool (by rw [← HE.out, HY.out]; simp [d2]), HB.out⟩
        · have d1i : ¬ ((sg : Int) = 0) := by omega
          go_enter Tryd.func52, Tryd.ntmps52
          go_wp2
          go_ret
          exact ⟨ret_bool (by rw [← HE.out, HY.out]; simp [d1]), HB.out⟩
      · have c3i : ¬ ((x2 : Int) = 0) := by omega
        go_enter Tryd.func52, Tryd.ntmps52
        go_wp2
        go_ret
        exact ⟨ret_bool (by rw [← HE.out]; simp [c3]), HB.out⟩
    · have c2i : ¬ ((y : Int) = 0) := by omega
      go_enter Tryd.func52, Tryd.ntmps52
      go_wp2
      go_ret
      exact ⟨ret_bool (by rw [← HE.out, HY.out]; simp [c2]), HB.out⟩
  · have c1i : ¬ ((x1 : Int) = 0) := by omega
    go_enter Tryd.func52, Tryd.ntmps52
    go_wp2
    go_ret
    exact ⟨ret_bool (by rw [← HE.out]; simp [c1]), HB.out⟩
end Go.Proofs.YtokgpnkooigamaaDoor
