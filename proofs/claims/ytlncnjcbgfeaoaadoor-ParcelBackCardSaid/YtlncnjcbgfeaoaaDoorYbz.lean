/- what reading a head shares: small laws. -/
import Derived.Test.YtlncnjcbgfeaoaaDoorYbb
set_option maxRecDepth 100000
set_option linter.unusedVariables false
namespace Go.Proofs.YtlncnjcbgfeaoaaDoor
open Go.RowKit
theorem taker_none (w : World) {a : Option Addr} {n c : Nat} (xs : List UInt8) (hx : BS w a n c xs) (hn : n ≤ 140737488355328) (ht : takeS xs = none) :
    Calls Tryd.prog 57 #[.slice a n c] w fun e w' => e = .returned (.tuple #[.int .u64 0, .slice none 0 0, .int .i64 2]) ∧ Below w.heap.size w w' := by
  refine (taker_any w xs hx hn).mono fun e w' h => ?_
  unfold TakePost at h; rw [ht] at h; exact h
theorem taker_some (w : World) {a : Option Addr} {n c : Nat} (xs : List UInt8) (hx : BS w a n c xs) (hn : n ≤ 140737488355328) (v m : Nat) (ys : List UInt8) (hm : ys.length = m) (ht : takeS xs = some (v, ys)) :
    Calls Tryd.prog 57 #[.slice a n c] w fun e w' => ∃ a' c', e = .returned (.tuple #[.int .u64 (v : Int), .slice a' m c', .int .i64 0]) ∧ OW w' w.heap.size 5 1 a' m c' (ys.map B) ∧ Below w.heap.size w w' := by
  subst hm
  refine (taker_any w xs hx hn).mono fun e w' h => ?_
  unfold TakePost at h; rw [ht] at h; exact h
theorem idS_cases (r : List UInt8) : r = [] ∧ idS r = (2, []) ∨ ∃ b r', r = b :: r' ∧ (20 < b.toNat ∧ idS r = (4, []) ∨ b.toNat ≤ 20 ∧ r'.length < b.toNat ∧ idS r = (2, []) ∨ b.toNat ≤ 20 ∧ b.toNat ≤ r'.length ∧ idS r = (0, r'.take b.toNat)) := by
  cases r with
  | nil => exact .inl ⟨rfl, rfl⟩
  | cons b r' =>
    refine .inr ⟨b, r', rfl, ?_⟩
    rw [idS_cons]
    by_cases h1 : 20 < b.toNat
    · exact .inl ⟨h1, if_pos h1⟩
    · by_cases h2 : r'.length < b.toNat
      · exact .inr (.inl ⟨by omega, h2, by rw [if_neg h1, if_pos h2]⟩)
      · exact .inr (.inr ⟨by omega, by omega, by rw [if_neg h1, if_neg h2]⟩)
abbrev vobj : Obj := .cells #[.int .u8 0, .int .u8 0, .int .u8 0, .int .u8 1] 5
abbrev lobj (lv : Int) : Obj := .cells #[.bool true, .int .i64 lv, .bool false, .slice none 0 0, .slice none 0 0] 43
theorem rs_v (w : World) : RS (w.alloc vobj) 1 (some ⟨w.heap.size, 0, none⟩) 4 4 (([0, 0, 0, 1] : List UInt8).map B) :=
  RS_new w 5 #[.int .u8 0, .int .u8 0, .int .u8 0, .int .u8 1] 4 rfl (by omega) (by simp [Value.oneCell'])
theorem LB2_slice_l {P : Program} {w : World} {ops : Array Oper} {rest : List Oper} {o : Oper} {f : Act} {Q : Exit → Act → World → Prop} {t e : TypeId} {zero : Value} {bytes : Nat} (ty : STy P t e zero 1 bytes) {a : Option Addr} {n c : Nat} {xs : List UInt8} (hx : BS w a n c xs) (i : Nat) (x l : Operand) (hg : Region.wanted o (yielded ops f.tmps) = true)
    (hop : o.op = .slice t x (some l) none none) (k1 : IntKind) (I : Int) (ex : f.eval x = .slice a n c) (el : f.eval l = .int k1 I) (hI : I = i) (h1 : i ≤ n)
    (h : ∀ a' r c', n - i = r → c - i = c' → (∀ ad, a' = some ad → ∃ ad0, a = some ad0 ∧ ad.block = ad0.block) → BS w a' r c' (xs.drop i) → wpList P ops Q rest (f.put o.dst (.slice a' r c')) w) : wpList P ops Q (o :: rest) f w :=
  L_slice_l ty hx i x l hg hop k1 I ex el hI h1 fun a' _ h2 h3 => h a' _ _ rfl rfl h2 (by
    unfold BS; simpa only [Nat.mul_one, List.map_drop] using h3)
theorem drop_cons {l : List UInt8} {b : UInt8} {r : List UInt8} (h : l = b :: r) (k : Nat) : l.drop (1 + k) = r.drop k := by
  rw [h, Nat.add_comm]; rfl
theorem HB.other {w : World} {b : Nat} {l : Bool} {lv : Int} {ph : Bool} {t f : Value} (h : HB w b l lv ph t f) {b' i : Nat} {v : Value} (hb : b' ≠ b) : HB (w.setCell ⟨b', i, none⟩ v) b l lv ph t f := by
  unfold HB at h ⊢
  rw [Below.heap_setCell _ _ _ _ (fun h => hb h.symm)]; exact h
theorem set5 {w w1 : World} {B b : Nat} (h : Below B w w1) (hb : B ≤ b) (v0 v1 v2 v3 v4 : Value) :
    Below B w (((((w1.setCell ⟨b, 0, none⟩ v0).setCell ⟨b, 1, none⟩ v1).setCell ⟨b, 2, none⟩ v2).setCell ⟨b, 3, none⟩ v3).setCell ⟨b, 4, none⟩ v4) :=
  ((((h.setCell hb _).setCell hb _).setCell hb _).setCell hb _).setCell hb _
end Go.Proofs.YtlncnjcbgfeaoaaDoor
