/- law12.PipeOpens: a table under way. -/
import Derived.Test.YteekafpkbdbadaaQJ
set_option maxRecDepth 100000
set_option linter.unusedVariables false
namespace Go.Proofs.Yteekafpkbdbadaa.Pi
open Go.RowKit
theorem rs_bools {w : World} {e : TypeId} (a b : Bool) : RS (w.alloc (.cells #[.bool a, .bool b] e)) 1 (some ⟨w.heap.size, 0, none⟩) 2 2 [.bool a, .bool b] := RS_new w e #[.bool a, .bool b] 2 rfl (by omega) (by simp [Value.oneCell'])
theorem tBo : STy Try.prog 29 4 (.bool false) 1 1 := ⟨Try.underlying29, by kernel_rfl, rfl, by decide⟩
theorem PO.cast {T : TaS} {Y : TaY} {sv : Bool} {k m k' m' : Bool → Nat} (h : PO T Y sv k m) (hk : ∀ u, k u = k' u) (hm : ∀ u, m u = m' u) : PO T Y sv k' m' := by
  have e1 : k = k' := funext hk
  have e2 : m = m' := funext hm
  rw [← e1, ← e2]; exact h
/-- a table under way in PipeOpens -/
structure LI (W wr : World) (g kb : Nat) (sv : Bool) (k m : Bool → Nat) : Prop where
  ex : ∃ (role : Nat → Nat) (T : TaS) (Y : TaY), TZ wr role g T Y ∧ PO T Y sv k m ∧ MB W wr role ∧ RS wr 1 (some ⟨kb, 0, none⟩) 2 2 [.bool false, .bool true] ∧ role kb = 0 ∧ kb < wr.heap.size
section
variable {W wr w' : World} {g kb : Nat} {sv : Bool} {k m : Bool → Nat}
theorem LI.step {role role' : Nat → Nat} {T' : TaS} {Y' : TaY} {k' m' : Bool → Nat} (hM : MB W wr role) (hR : RS wr 1 (some ⟨kb, 0, none⟩) 2 2 [.bool false, .bool true]) (h0 : role kb = 0) (hl : kb < wr.heap.size) (z : TZ w' role' g T' Y') (p : PO T' Y' sv k' m') (s : Stq (fun r => r ≠ 0) wr w' role role') : LI W w' g kb sv k' m' :=
  ⟨role', T', Y', z, p, hM.stq s, hR.keepb (fun ad had hl2 => by injection had with had; subst had; exact s.blk kb hl2 (by rw [h0]; exact fun hh => hh rfl)), (s.old kb hl).trans h0, Nat.lt_of_lt_of_le hl s.size⟩
theorem LI.open_ok (h : LI W wr g kb sv k m) (u : Bool) {i D : Nat} (hi : k u = i) (hD : i * 4 + lst sv u = D) (hk : i < m u) (hb : k false + k true < 1000000) (hm : m u < 1000) :
    Calls Try.prog 10 #[ptr g, .bool u] wr fun e w' => e = .returned (.tuple #[.int .u64 (D : Int), .int .i64 0]) ∧ LI W w' g kb sv (kset k u (i + 1)) m := by
  obtain ⟨role, T, Y, z, p, hM, hR, h0, hl⟩ := h.ex
  subst hi hD
  refine (open_po z p u hk hb hm).mono ?_
  rintro e w' ⟨rfl, role', T', Y', z', p', s'⟩
  exact ⟨rfl, LI.step hM hR h0 hl z' p' s'⟩
theorem LI.open_no (h : LI W wr g kb sv k m) (u : Bool) (hk : m u ≤ k u) :
    Calls Try.prog 10 #[ptr g, .bool u] wr fun e w' => e = .returned (.tuple #[.int .u64 0, .int .i64 12]) ∧ LI W w' g kb sv k m := by
  obtain ⟨role, T, Y, z, p, hM, hR, h0, hl⟩ := h.ex
  refine (open_po_no z p u hk).mono ?_
  rintro e w' ⟨rfl, z', s'⟩
  exact ⟨rfl, LI.step hM hR h0 hl z' p s'⟩
theorem LI.hear (h : LI W wr g kb sv k m) (u : Bool) (n : Nat) (hn : n < 30) :
    Calls Try.prog 11 #[ptr g, .agg (frc (if u then 19 else 18) 0 0 n 0 false SA0 SA0 SA0).toArray] wr fun e w' => e = .returned (.int .u64 0) ∧ LI W w' g kb sv k (kset m u (max (m u) n)) := by
  obtain ⟨role, T, Y, z, p, hM, hR, h0, hl⟩ := h.ex
  refine (hear_po z p u n hn).mono ?_
  rintro e w' ⟨rfl, T', z', p', s'⟩
  exact ⟨rfl, LI.step hM hR h0 hl z' p' s'⟩
theorem LI.cast {k' m' : Bool → Nat} (h : LI W wr g kb sv k m) (hk : ∀ u, k u = k' u) (hm : ∀ u, m u = m' u) : LI W wr g kb sv k' m' := by
  obtain ⟨role, T, Y, z, p, r⟩ := h.ex
  exact ⟨role, T, Y, z, p.cast hk hm, r⟩
/-- what is known, what may be, at round i of the way u -/
def rk (k : Bool → Nat) (u : Bool) (i P : Nat) : Bool → Nat := kset k u (min i P)
def rm (m : Bool → Nat) (u : Bool) (i n P : Nat) : Bool → Nat := kset m u (if i ≤ n then n else P)
theorem kset_ff (k : Bool → Nat) (n : Nat) : kset k false n false = n := rfl
theorem kset_ft (k : Bool → Nat) (n : Nat) : kset k false n true = k true := rfl
theorem kset_tf (k : Bool → Nat) (n : Nat) : kset k true n false = k false := rfl
theorem kset_tt (k : Bool → Nat) (n : Nat) : kset k true n true = n := rfl
theorem LI.hear_18 (h : LI W wr g kb sv k m) (n : Nat) (hn : n < 30) :
    Calls Try.prog 11 #[ptr g, .agg #[.int .u64 18, .int .u64 0, .int .u64 0, .int .u64 (n : Int), .int .u64 0, .bool false, .slice none 0 0, .slice none 0 0, .slice none 0 0]] wr fun e w' => e = .returned (.int .u64 0) ∧ LI W w' g kb sv k (kset m false (max (m false) n)) := h.hear false n hn
theorem LI.hear_19 (h : LI W wr g kb sv k m) (n : Nat) (hn : n < 30) :
    Calls Try.prog 11 #[ptr g, .agg #[.int .u64 19, .int .u64 0, .int .u64 0, .int .u64 (n : Int), .int .u64 0, .bool false, .slice none 0 0, .slice none 0 0, .slice none 0 0]] wr fun e w' => e = .returned (.int .u64 0) ∧ LI W w' g kb sv k (kset m true (max (m true) n)) := h.hear true n hn
end
end Go.Proofs.Yteekafpkbdbadaa.Pi
