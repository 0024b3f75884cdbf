/- word.parts: which parts a kind of message has. -/
import Derived.Test.YtokgpnkooigamaaDoorUK
import Derived.Test.YtokgpnkooigamaaDoorJN
import Derived.Test.YtokgpnkooigamaaDoorF0
import Derived.Deep.MidRow
import Derived.Deep.DeepCutAuto
import Derived.StillTailTactics
import Derived.Deep.WholeRow
import Derived.Deep.RegionHeld3
set_option maxRecDepth 100000
set_option linter.unusedVariables false
namespace Go.Proofs.YtokgpnkooigamaaDoor
open Go.RowKit
theorem ret_bool {a b : Bool} (h : a = b) : Ending.returned (.bool a) = .returned (.bool b) := by rw [h]
theorem btr {w w1 w2 : World} (h : Below w.heap.size w w1) (k : Below w1.heap.size w1 w2) : Below w.heap.size w w2 := h.trans (k.mono h.size)
/-- the table of kinds -/
def kindT : List (Nat × Nat) := [(3, 191), (4, 289), (5, 1537), (6, 5), (7, 1), (8, 1537), (9, 4), (10, 1), (11, 1537), (16, 0), (21, 2048), (22, 109), (23, 1), (24, 1), (25, 1537), (32, 10240), (33, 6144)]
def kcell (x : Nat × Nat) : List Value := [.int .u64 (x.1 : Int), .int .i64 (x.2 : Int)]
/-- where a kind stands -/
def idxF (kind : Nat) : List (Nat × Nat) → Nat → Int
  | [], _ => -1
  | x :: r, j => if x.1 = kind then (j : Int) else idxF kind r (j + 1)
def partsS (kind : Nat) : Option Nat := (kindT.find? fun x => x.1 == kind).map (·.2)
/-- the table as it lies -/
def KA (w : World) : Prop := ∀ j x, kindT[j]? = some x → w.rangeAt 0 (2 * j) (kcell x)
theorem KA.lt {w : World} (h : KA w) : 0 < w.heap.size := by
  have := h 0 (3, 191) rfl 0 _ rfl
  exact World.block_lt_of_cell? w _ this
theorem KA.bel {w w' : World} {N : Nat} (h : KA w) (hb : Below N w w') (hN : w.heap.size ≤ N) : KA w' := fun j x hx i v hv => by
  have h1 := h j x hx i v hv
  exact (hb.cell (p := ⟨0, 2 * j + i, none⟩) (Nat.lt_of_lt_of_le h.lt hN)).trans h1
theorem tK : STy Tryd.prog 98 100 (.agg #[.int .u64 0, .int .i64 0]) 2 16 := ⟨Tryd.underlying98, by kernel_rfl, rfl, by decide⟩
theorem iKinds : (Tryd.prog.info? 100).map (·.size) = some 2 := by kernel_rfl
/-- is it that kind? -/
theorem isKind_any (w : World) (x : Nat × Nat) (B kind : Nat) (hc : w.cell? ⟨B, 0, none⟩ = some (.int .u64 (kind : Int))) :
    Calls Tryd.prog 57 #[.agg #[.int .u64 (x.1 : Int), .int .i64 (x.2 : Int)], .pointer (some ⟨B, 0, none⟩)] w fun e w' => e = .returned (.bool (decide (x.1 = kind))) ∧ Below w.heap.size w w' := by
  have hb := below_alloc w (.cells #[.int .u64 (x.1 : Int), .int .i64 (x.2 : Int)] 100)
  have hl : B < w.heap.size := World.block_lt_of_cell? w _ hc
  have hc2 := (hb.cell (p := ⟨B, 0, none⟩) hl).trans hc
  have HB := Lib.hid hb
  clear hb
  go_enter Tryd.func57, Tryd.ntmps57
  go_wp2
  go_ret
  first
    | exact ⟨rfl, HB.out⟩
    | exact ⟨ret_bool (decide_eq_decide.2 (by omega)), HB.out⟩
/-- &l[i] of a slice of pairs -/
theorem L_index2 {P : Program} {w : World} {ops : Array Oper} {rest : List Oper} {o : Oper} {f : Act} {Q : Exit → Act → World → Prop} {t e : TypeId} {zero : Value} {bytes : Nat} (ty : STy P t e zero 2 bytes) {b of n c : Nat} (x i : Operand) (hg : Region.wanted o (yielded ops f.tmps) = true)
    (hop : o.op = .indexAddr t x i) (k : IntKind) (I : Int) (j : Nat) (ex : f.eval x = .slice (some ⟨b, of, none⟩) n c) (ei : f.eval i = .int k I) (hI : I = j) (h1 : j < n)
    (h : wpList P ops Q rest (f.put o.dst (.pointer (some ⟨b, of + 2 * j, none⟩))) w) : wpList P ops Q (o :: rest) f w := by
  subst hI
  refine wpList_on hg fun K hK => ?_
  have hrun : (Instr.indexAt t (.slice (some ⟨b, of, none⟩) n c) (.int k (j : Int))).run P w = .ok (.pointer (some ⟨b, of + 2 * j, none⟩)) w := by
    rw [run_indexAt_slice w t _ n c k _ ty.und', if_pos ⟨by omega, by omega⟩, ty.sizeOf]
    simp [Result.andThen, add_plain, Nat.mul_comm]
  unfold Oper.wp
  simp only [execOp, hop, ex, ei]
  simp [hrun, Result.andThen]
  exact hK _ _ h
theorem L_index20 {P : Program} {w : World} {ops : Array Oper} {rest : List Oper} {o : Oper} {f : Act} {Q : Exit → Act → World → Prop} {t e : TypeId} {zero : Value} {bytes : Nat} (ty : STy P t e zero 2 bytes) {b n c : Nat} (x i : Operand) (hg : Region.wanted o (yielded ops f.tmps) = true)
    (hop : o.op = .indexAddr t x i) (k : IntKind) (I : Int) (j : Nat) (ex : f.eval x = .slice (some ⟨b, 0, none⟩) n c) (ei : f.eval i = .int k I) (hI : I = j) (h1 : j < n) {J : Nat} (hJ : 2 * j = J)
    (h : wpList P ops Q rest (f.put o.dst (.pointer (some ⟨b, J, none⟩))) w) : wpList P ops Q (o :: rest) f w :=
  L_index2 ty x i hg hop k I j ex ei hI h1 (by rw [Nat.zero_add, hJ]; exact h)
theorem idxF_step {kind : Nat} {l : List (Nat × Nat)} {j : Nat} {x : Nat × Nat} (h : l[j]? = some x) (b : Nat) : idxF kind (l.drop j) b = if x.1 = kind then (b : Int) else idxF kind (l.drop (j + 1)) (b + 1) := by
  have hj := (List.getElem?_eq_some_iff.1 h)
  obtain ⟨hl, he⟩ := hj
  rw [List.drop_eq_getElem_cons hl, idxF, he]
set_option maxHeartbeats 4000000 in
theorem idxK_any (w : World) (B kind : Nat) (hc : w.cell? ⟨B, 0, none⟩ = some (.int .u64 (kind : Int))) (hK : KA w) :
    Calls Tryd.prog 56 #[.slice (some ⟨0, 0, none⟩) 17 17, .func (.func 57) #[] #[.pointer (some ⟨B, 0, none⟩)]] w fun e w' => e = .returned (.int .i64 (idxF kind kindT 0)) ∧ Below w.heap.size w w' := by
  have hl : B < w.heap.size := World.block_lt_of_cell? w _ hc
  have HC := Lib.hid (fun (w' : World) (hb : Below w.heap.size w w') => (hb.cell (p := ⟨B, 0, none⟩) hl).trans hc)
  have HK := Lib.hid (fun (w' : World) (hb : Below w.heap.size w w') => hK.bel hb (Nat.le_refl _))
  obtain ⟨R, hR⟩ : ∃ R, idxF kind kindT 0 = R := ⟨_, rfl⟩
  rw [hR]
  have HS := Lib.hid (show ∃ j : Nat, j ≤ 17 ∧ Value.int .i64 (0 : Int) = .int .i64 (j : Int) ∧ idxF kind (kindT.drop j) j = R ∧ Below w.heap.size w w from ⟨0, by omega, rfl, hR, Below.refl _ _⟩)
  clear hl hc hK hR
  go_enter Tryd.func56, Tryd.ntmps56
  go_wp2
  go_loopw [8] (fun s8 wr => ∃ j : Nat, j ≤ 17 ∧ s8 = .int .i64 (j : Int) ∧ idxF kind (kindT.drop j) j = R ∧ Below w.heap.size w wr) (fun s8 _ => match s8 with | .int _ x => (17 - x).toNat | _ => 0)
  case atStart => exact HS.out
  case round =>
    clear HS
    obtain ⟨j, hj, rfl, hR, hb⟩ := hrel
    have HB := Lib.hid hb
    have HR := Lib.hid hR
    clear hb hR
    by_cases h17 : j = 17
    · subst h17
      go_wp2
      go_ret
      exact ⟨by rw [← HR.out]; rfl, HB.out⟩
    · have hlt : j < 17 := by omega
      obtain ⟨x, hx⟩ : ∃ x, kindT[j]? = some x := ⟨_, List.getElem?_eq_getElem (by exact hlt)⟩
      have Hrg := Lib.hid (HK.out wr HB.out j x hx)
      have hst := idxF_step (kind := kind) hx j
      rw [HR.out] at hst
      obtain ⟨J, hJ⟩ : ∃ J, 2 * j = J := ⟨_, rfl⟩
      rw [hJ] at Hrg
      have HJ := Lib.hid hJ
      have Hst := Lib.hid hst
      have Hcl := Lib.hid (isKind_any wr x B kind (HC.out wr HB.out))
      have hwr : IntKind.i64.wrap ((j : Int) + 1) = (j : Int) + 1 := IntWalk.i64_in _ (by omega)
      clear hx hst hJ
      by_cases hk : x.1 = kind
      · have hd : decide (x.1 = kind) = true := by simp [hk]
        rw [hd] at Hcl
        have hst := Hst.out
        rw [if_pos hk] at hst
        have Hst2 := Lib.hid hst
        clear hst hk hd
        go_wp2_with (first
          | (refine L_index20 tK _ _ rfl rfl .i64 _ j rfl rfl rfl hlt HJ.out ?_)
          | (refine wpList_load_mid rfl _ _ rfl _ _ rfl _ _ Hrg.out Tryd.underlying100 rfl iKinds ?_)
          | (go_at_call 57; refine Hcl.out.mono ?_; rintro y w2 ⟨rfl, B2⟩))
        go_ret
        exact ⟨by rw [Hst2.out]; rfl, HB.out.trans (B2.mono HB.out.size)⟩
      · have hd : decide (x.1 = kind) = false := by simp [hk]
        rw [hd] at Hcl
        have hst := Hst.out
        rw [if_neg hk] at hst
        have Hst2 := Lib.hid hst
        clear hst hk hd
        go_wp2_with (first
          | (refine L_index20 tK _ _ rfl rfl .i64 _ j rfl rfl rfl hlt HJ.out ?_)
          | (refine wpList_load_mid rfl _ _ rfl _ _ rfl _ _ Hrg.out Tryd.underlying100 rfl iKinds ?_)
          | (go_at_call 57; refine Hcl.out.mono ?_; rintro y w2 ⟨rfl, B2⟩))
        exact ⟨⟨j + 1, by omega, by simp, Hst2.out.symm, HB.out.trans (B2.mono HB.out.size)⟩, by simp; omega⟩
/-- what is found -/
theorem idxF_find (kind : Nat) : ∀ (l : List (Nat × Nat)) (j : Nat), (∃ i x, l[i]? = some x ∧ idxF kind l j = ((j + i : Nat) : Int) ∧ l.find? (fun y => y.1 == kind) = some x) ∨ (idxF kind l j = -1 ∧ l.find? (fun y => y.1 == kind) = none)
  | [], j => .inr ⟨rfl, rfl⟩
  | y :: r, j => by
    by_cases h : y.1 = kind
    · exact .inl ⟨0, y, rfl, by rw [idxF, if_pos h]; rfl, by rw [List.find?_cons, show (y.1 == kind) = true by simp [h]]⟩
    · rcases idxF_find kind r (j + 1) with ⟨i, x, h1, h2, h3⟩ | ⟨h1, h2⟩
      · exact .inl ⟨i + 1, x, h1, by rw [idxF, if_neg h, h2]; congr 1; omega, by rw [List.find?_cons, show (y.1 == kind) = false by simp [h]]; exact h3⟩
      · exact .inr ⟨by rw [idxF, if_neg h, h1], by rw [List.find?_cons, show (y.1 == kind) = false by simp [h]]; exact h2⟩
set_option maxHeartbeats 4000000 in
theorem parts_any (w : World) (kind : Nat) (hK : KA w) :
    Calls Tryd.prog 46 #[.int .u64 (kind : Int)] w fun e w' => e = .returned (.tuple #[.int .i64 (((partsS kind).getD 0 : Nat) : Int), .bool (partsS kind).isSome]) ∧ Below w.heap.size w w' := by
  have hb := below_alloc w (.cells #[.int .u64 (kind : Int)] 23)
  have hc : (w.alloc (.cells #[.int .u64 (kind : Int)] 23)).cell? ⟨w.heap.size, 0, none⟩ = some (.int .u64 (kind : Int)) := by
    have h := heap_alloc_new w (.cells #[.int .u64 (kind : Int)] 23)
    unfold World.cell?
    rw [h]; rfl
  have hK1 := hK.bel hb (Nat.le_refl _)
  have hi := idxK_any _ w.heap.size kind hc hK1
  have HB := Lib.hid hb
  have HK1 := Lib.hid hK1
  have hf := idxF_find kind kindT 0
  obtain ⟨R, hR⟩ : ∃ R, idxF kind kindT 0 = R := ⟨_, rfl⟩
  rw [hR] at hi hf
  have HI := Lib.hid hi
  have HF := Lib.hid (show (∃ (i : Nat) (x : Nat × Nat), kindT[i]? = some x ∧ R = (i : Int) ∧ partsS kind = some x.2) ∨ (R = -1 ∧ partsS kind = none) from by
    rcases hf with ⟨i, x, h1, h2, h3⟩ | ⟨h1, h2⟩
    · exact .inl ⟨i, x, h1, by rw [h2]; congr 1; omega, by unfold partsS; rw [h3]; rfl⟩
    · exact .inr ⟨h1, by unfold partsS; rw [h2]; rfl⟩)
  clear hb hc hK hK1 hi hf hR
  have hmf : ∀ (fn : Fn) (first cap : Array Value) (w : World), (Instr.makeFunc fn first cap).run Tryd.prog w = .ok (.func fn first cap) w := fun _ _ _ _ => rfl
  rcases HF.out with ⟨i, x, h1, rfl, h3⟩ | ⟨rfl, h3⟩
  · have hil : i < 17 := (List.getElem?_eq_some_iff.1 h1).1
    have hnl : ¬ ((i : Int) < 0) := by omega
    rw [h3]
    have H1 := Lib.hid h1
    clear h1 h3 HF
    go_enter Tryd.func46, Tryd.ntmps46
    go_upto_region 4 with (go_at_call 56; refine HI.out.mono ?_; rintro y w2 ⟨rfl, B2⟩)
    have hrg := (HK1.out.bel B2 (Nat.le_refl _)) i x H1.out
    have hcl : w2.cell? ⟨0, i * 2 + 1, none⟩ = some (.int .i64 (x.2 : Int)) := by rw [Nat.mul_comm]; exact hrg 1 _ rfl
    have HB2 := Lib.hid (btr HB.out B2)
    clear hrg B2
    go_wp2
    go_ret2
    exact ⟨rfl, HB2.out⟩
  · rw [h3]
    clear h3 HF
    go_enter Tryd.func46, Tryd.ntmps46
    go_wp2_with (go_at_call 56; refine HI.out.mono ?_; rintro y w2 ⟨rfl, B2⟩)
    go_ret2
    exact ⟨rfl, btr HB.out B2⟩
end Go.Proofs.YtokgpnkooigamaaDoor
