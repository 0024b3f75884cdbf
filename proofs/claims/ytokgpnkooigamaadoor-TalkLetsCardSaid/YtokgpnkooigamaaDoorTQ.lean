/- talk's small functions. -/
import Derived.Test.YtokgpnkooigamaaDoorTP
set_option maxRecDepth 100000
set_option linter.unusedVariables false
namespace Go.Proofs.YtokgpnkooigamaaDoor
open Go.RowKit
theorem gate_ix {w : World} {ops : Array Oper} {rest : List Oper} {f : Act} {Q : Exit → Act → World → Prop} {d : Option Tmp} {t ty : TypeId} {x i : Operand} {pos : String} {af : Array Edge} {g : Option (Nat × Bool)} (h : wpList Tryd.prog ops Q (⟨d, .indexAddr t x i, ty, pos, af, g⟩ :: rest) f w) : wpList Tryd.prog ops Q (⟨d, .indexAddr t x i, ty, pos, af, g⟩ :: rest) f w := h
/-- &l[i] of a slice of structs that begins a row -/
theorem L_indexZ {P : Program} {w : World} {ops : Array Oper} {rest : List Oper} {o : Oper} {f : Act} {Q : Exit → Act → World → Prop} {t e : TypeId} {zero : Value} {z bytes : Nat} (ty : STy P t e zero z bytes) {b n c : Nat} (x i : Operand)
    (hop : o.op = .indexAddr t x i) (k : IntKind) (I : Int) (j : Nat) (ex : f.eval x = .slice (some ⟨b, 0, none⟩) n c) (ei : f.eval i = .int k I) (hI : I = j) (h1 : j < n) {J : Nat} (hJ : j * z = J) (hg : Region.wanted o (yielded ops f.tmps) = true)
    (h : wpList P ops Q rest (f.put o.dst (.pointer (some ⟨b, J, none⟩))) w) : wpList P ops Q (o :: rest) f w := by
  subst hI
  subst hJ
  refine wpList_on hg fun K hK => ?_
  have hrun : (Instr.indexAt t (.slice (some ⟨b, 0, none⟩) n c) (.int k (j : Int))).run P w = .ok (.pointer (some ⟨b, j * z, none⟩)) w := by
    rw [run_indexAt_slice w t _ n c k _ ty.und', if_pos ⟨by omega, by omega⟩, ty.sizeOf]
    simp [Result.andThen, add_plain]
  unfold Oper.wp
  simp only [execOp, hop, ex, ei]
  simp [hrun, Result.andThen]
  exact hK _ _ h
theorem tA : STy Tryd.prog 45 49 (.agg ((zmsg ++ [Value.int .i64 0]).toArray)) 17 176 := ⟨Tryd.underlying45, by kernel_rfl, rfl, by decide⟩
theorem tQ : STy Tryd.prog 37 31 (.agg zmsg.toArray) 16 168 := ⟨Tryd.underlying37, by kernel_rfl, rfl, by decide⟩
theorem iAsk : (Tryd.prog.info? 49).map (·.size) = some 17 := by kernel_rfl
/-- is it a request? -/
def requestS (k : Nat) : Bool := k == 3 || k == 6 || k == 22
theorem request_any (w : World) (k : Nat) : Calls Tryd.prog 24 #[.int .u64 (k : Int)] w fun e w' => e = .returned (.bool (requestS k)) ∧ w = w' := by
  unfold requestS
  by_cases h3 : k = 3
  · subst h3
    go_enter Tryd.func24, Tryd.ntmps24
    go_wp2
    go_ret
    exact ⟨rfl, rfl⟩
  by_cases h6 : k = 6
  · subst h6
    go_enter Tryd.func24, Tryd.ntmps24
    go_wp2
    go_ret
    exact ⟨rfl, rfl⟩
  by_cases h22 : k = 22
  · subst h22
    go_enter Tryd.func24, Tryd.ntmps24
    go_wp2
    go_ret
    exact ⟨rfl, rfl⟩
  have q3 : ((k : Int) == 3) = false := by simp; omega
  have q6 : ((k : Int) == 6) = false := by simp; omega
  have q22 : ((k : Int) == 22) = false := by simp; omega
  go_enter Tryd.func24, Tryd.ntmps24
  go_wp2
  go_ret
  exact ⟨ret_bool (by simp [h3, h6, h22]), rfl⟩
/-- to which kind of request; is it granted by that? -/
def replyS (k : Nat) : Nat × Bool := if k = 4 then (3, true) else if k = 5 then (3, false) else if k = 7 then (6, true) else if k = 8 then (6, false) else if k = 24 then (22, true) else if k = 25 then (22, false) else (0, false)
theorem reply_any (w : World) (k : Nat) : Calls Tryd.prog 33 #[.int .u64 (k : Int)] w fun e w' => e = .returned (.tuple #[.int .u64 ((replyS k).1 : Int), .bool (replyS k).2]) ∧ w = w' := by
  by_cases h4 : k = 4
  · subst h4
    go_enter Tryd.func33, Tryd.ntmps33
    go_wp2
    go_ret2
    exact ⟨rfl, rfl⟩
  by_cases h5 : k = 5
  · subst h5
    go_enter Tryd.func33, Tryd.ntmps33
    go_wp2
    go_ret2
    exact ⟨rfl, rfl⟩
  by_cases h7 : k = 7
  · subst h7
    go_enter Tryd.func33, Tryd.ntmps33
    go_wp2
    go_ret2
    exact ⟨rfl, rfl⟩
  by_cases h8 : k = 8
  · subst h8
    go_enter Tryd.func33, Tryd.ntmps33
    go_wp2
    go_ret2
    exact ⟨rfl, rfl⟩
  by_cases h24 : k = 24
  · subst h24
    go_enter Tryd.func33, Tryd.ntmps33
    go_wp2
    go_ret2
    exact ⟨rfl, rfl⟩
  by_cases h25 : k = 25
  · subst h25
    go_enter Tryd.func33, Tryd.ntmps33
    go_wp2
    go_ret2
    exact ⟨rfl, rfl⟩
  have q4 : ((k : Int) == 4) = false := by simp; omega
  have q5 : ((k : Int) == 5) = false := by simp; omega
  have q7 : ((k : Int) == 7) = false := by simp; omega
  have q8 : ((k : Int) == 8) = false := by simp; omega
  have q24 : ((k : Int) == 24) = false := by simp; omega
  have q25 : ((k : Int) == 25) = false := by simp; omega
  have hr : replyS k = (0, false) := by unfold replyS; rw [if_neg h4, if_neg h5, if_neg h7, if_neg h8, if_neg h24, if_neg h25]
  rw [hr]
  clear hr
  go_enter Tryd.func33, Tryd.ntmps33
  go_wp2
  go_ret2
  exact ⟨rfl, rfl⟩
/-- which kind of request who made it ends by that -/
def endS (k : Nat) : Nat := if k = 10 then 3 else if k = 23 then 22 else 0
theorem end_any (w : World) (k : Nat) : Calls Tryd.prog 34 #[.int .u64 (k : Int)] w fun e w' => e = .returned (.int .u64 (endS k : Int)) ∧ w = w' := by
  by_cases h10 : k = 10
  · subst h10
    go_enter Tryd.func34, Tryd.ntmps34
    go_wp2
    go_ret
    exact ⟨rfl, rfl⟩
  by_cases h23 : k = 23
  · subst h23
    go_enter Tryd.func34, Tryd.ntmps34
    go_wp2
    go_ret
    exact ⟨rfl, rfl⟩
  have q10 : ((k : Int) == 10) = false := by simp; omega
  have q23 : ((k : Int) == 23) = false := by simp; omega
  have hr : endS k = 0 := by unfold endS; rw [if_neg h10, if_neg h23]
  rw [hr]
  clear hr
  go_enter Tryd.func34, Tryd.ntmps34
  go_wp2
  go_ret
  exact ⟨rfl, rfl⟩
/-- a request of a side, of a kind -/
def findS (xs : List AG) (id kind : Nat) : Option Nat := match xs[id / 2]? with
  | none => none
  | some x => if x.m.id = id ∧ x.m.kind = kind then some (id / 2) else none
theorem findS_some {xs : List AG} {id kind i : Nat} (h : findS xs id kind = some i) : i = id / 2 ∧ ∃ x, xs[i]? = some x ∧ x.m.id = id ∧ x.m.kind = kind := by
  unfold findS at h
  split at h
  · cases h
  · next x hx =>
    split at h
    · next hc => cases h; exact ⟨rfl, x, hx, hc⟩
    · cases h
section
variable {w : World} {base g o : Nat} {s : SA} {xs : List AG} {ls : List ML}
set_option maxHeartbeats 4000000 in
theorem find_no (h : AO w base s xs ls) (hq : w.cell? ⟨g, o, none⟩ = some (.slice s.a s.n s.c)) (hn : s.n ≤ 1099511627776) (id kind : Nat) (hf : findS xs id kind = none) :
    Calls Tryd.prog 29 #[.pointer (some ⟨g, o, none⟩), .int .u64 (id : Int), .int .u64 (kind : Int)] w fun e w' => e = .returned (.pointer none) ∧ w = w' := by
  obtain ⟨i, hi⟩ : ∃ i, id / 2 = i := ⟨_, rfl⟩
  have hii : (id : Int) / 2 = (i : Int) := by omega
  have hnx := h.n
  by_cases hlt : i < s.n
  · obtain ⟨x, hx⟩ : ∃ x, xs[i]? = some x := ⟨_, List.getElem?_eq_getElem (by omega)⟩
    obtain ⟨l, hl⟩ := h.loc hx
    obtain ⟨b, hb, _⟩ := h.blk hx
    have hr := h.rng hx hl hb
    obtain ⟨J, hJ⟩ : ∃ J, i * 17 = J := ⟨_, rfl⟩
    rw [hJ] at hr
    have c1 : w.cell? ⟨b, J + 1, none⟩ = some (.int .u64 (x.m.id : Int)) := hr 1 _ rfl
    have c0 : w.cell? ⟨b, J, none⟩ = some (.int .u64 (x.m.kind : Int)) := hr 0 _ rfl
    have hge : decide (s.n ≤ i) = false := decide_eq_false (by omega)
    unfold findS at hf
    rw [hi, hx] at hf
    rw [hb] at hq
    have HJ := Lib.hid hJ
    have Hi := Lib.hid hi
    obtain ⟨sa, sn, sc⟩ := s
    simp only [] at *
    by_cases h1 : x.m.id = id
    · have h2 : ¬ (x.m.kind = kind) := fun h2 => by rw [if_pos ⟨h1, h2⟩] at hf; cases hf
      have q1 : ((x.m.id : Int) != (id : Int)) = false := by simp; omega
      have q2 : ((x.m.kind : Int) != (kind : Int)) = true := by simp; omega
      clear hf hr h hl hx hnx hJ hi h1 h2
      go_enter Tryd.func29, Tryd.ntmps29
      go_wp2_with ((with_reducible refine gate_ix ?_); refine L_indexZ tA _ _ rfl .u64 _ i rfl rfl rfl hlt HJ.out (by rfl) ?_)
      go_ret
      exact ⟨rfl, rfl⟩
    · have q1 : ((x.m.id : Int) != (id : Int)) = true := by simp; omega
      clear hf hr h hl hx hnx hJ hi h1
      go_enter Tryd.func29, Tryd.ntmps29
      go_wp2_with ((with_reducible refine gate_ix ?_); refine L_indexZ tA _ _ rfl .u64 _ i rfl rfl rfl hlt HJ.out (by rfl) ?_)
      go_ret
      exact ⟨rfl, rfl⟩
  · have hge : decide (s.n ≤ i) = true := decide_eq_true (by omega)
    clear hf h hnx hi
    go_enter Tryd.func29, Tryd.ntmps29
    go_wp2
    go_ret
    exact ⟨rfl, rfl⟩
set_option maxHeartbeats 4000000 in
theorem find_yes (h : AO w base s xs ls) (hq : w.cell? ⟨g, o, none⟩ = some (.slice s.a s.n s.c)) (hn : s.n ≤ 1099511627776) (id kind i b : Nat) (hf : findS xs id kind = some i) (hb : s.a = some ⟨b, 0, none⟩) :
    Calls Tryd.prog 29 #[.pointer (some ⟨g, o, none⟩), .int .u64 (id : Int), .int .u64 (kind : Int)] w fun e w' => e = .returned (.pointer (some ⟨b, i * 17, none⟩)) ∧ w = w' := by
  obtain ⟨hi, x, hx, h1, h2⟩ := findS_some hf
  have hii : (id : Int) / 2 = (i : Int) := by omega
  have hnx := h.n
  have hlt : i < s.n := by have := (List.getElem?_eq_some_iff.1 hx).1; omega
  obtain ⟨l, hl⟩ := h.loc hx
  have hr := h.rng hx hl hb
  obtain ⟨J, hJ⟩ : ∃ J, i * 17 = J := ⟨_, rfl⟩
  rw [hJ] at hr ⊢
  have c1 : w.cell? ⟨b, J + 1, none⟩ = some (.int .u64 (x.m.id : Int)) := hr 1 _ rfl
  have c0 : w.cell? ⟨b, J, none⟩ = some (.int .u64 (x.m.kind : Int)) := hr 0 _ rfl
  have hge : decide (s.n ≤ i) = false := decide_eq_false (by omega)
  rw [hb] at hq
  have HJ := Lib.hid hJ
  obtain ⟨sa, sn, sc⟩ := s
  simp only [] at *
  have q1 : ((x.m.id : Int) != (id : Int)) = false := by simp; omega
  have q2 : ((x.m.kind : Int) != (kind : Int)) = false := by simp; omega
  clear hf hr h hl hx hnx hJ hi h1 h2 hb
  go_enter Tryd.func29, Tryd.ntmps29
  go_wp2_with ((with_reducible refine gate_ix ?_); refine L_indexZ tA _ _ rfl .u64 _ i rfl rfl rfl hlt HJ.out (by rfl) ?_)
  go_ret
  exact ⟨rfl, rfl⟩
end
end Go.Proofs.YtokgpnkooigamaaDoor
