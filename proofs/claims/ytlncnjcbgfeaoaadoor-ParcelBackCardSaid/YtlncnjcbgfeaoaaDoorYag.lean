/- texts C4 C5 E0 C8 C9 CA CC CD CB CE CF E2 E3 D1 D2 DE in one. -/
import Derived.Test.YtlncnjcbgfeaoaaDoorYaf
import Derived.Test.YtlncnjcbgfeaoaaDoorYae
import Derived.Test.YtlncnjcbgfeaoaaDoorYah
import Derived.Test.YtlncnjcbgfeaoaaDoorYad
import Derived.Deep.MidRow
import Derived.Deep.WholeRow
import Derived.Deep.RegionHeld3
import Derived.Deep.QuietTactic
import Derived.BigQuiet
import Derived.Laws.CopyOwn
import Derived.Deep.RegionWith
import Derived.Handy

/- salt.stir: a block of the stream. -/
set_option maxRecDepth 100000
set_option linter.unusedVariables false
namespace Go.Proofs.YtlncnjcbgfeaoaaDoor
open Go.RowKit
def cS : List Nat := [1634760805, 857760878, 2036477234, 1797285236]
/-- the state that a block begins with -/
def initC (key nonce : List UInt8) (n : Nat) : List Nat := cS ++ (List.range 8).map (fun i => le4 (key.drop (4 * i))) ++ [n] ++ (List.range 3).map (fun i => le4 (nonce.drop (4 * i)))
theorem initC_len (key nonce : List UInt8) (n : Nat) : (initC key nonce n).length = 16 := by simp [initC, cS]
def partC (L : List Nat) (m : Nat) : List Nat := L.take m ++ List.replicate (16 - m) 0
theorem partC_set (L : List Nat) (m x : Nat) (hL : L.length = 16) (hm : m < 16) (hx : L[m]? = some x) : (partC L m).set m x = partC L (m + 1) := by
  unfold partC
  have hl : (L.take m).length = m := by rw [List.length_take]; omega
  rw [List.set_append_right _ _ (by omega), hl, Nat.sub_self, show 16 - m = (16 - (m + 1)) + 1 by omega, List.replicate_succ, List.set_cons_zero, List.take_add_one, hx]
  simp
theorem partC_get (L : List Nat) (m : Nat) (hL : L.length = 16) (hm : m < 16) : (partC L m)[m]? = some 0 := by
  unfold partC
  have hl : (L.take m).length = m := by rw [List.length_take]; omega
  rw [List.getElem?_append_right (by omega), hl, Nat.sub_self, List.getElem?_replicate, if_pos (by omega)]
theorem partC_all (L : List Nat) (hL : L.length = 16) : partC L 16 = L := by
  unfold partC; rw [List.take_of_length_le (by omega)]; simp
theorem initC_key (key nonce : List UInt8) (n i : Nat) (h : i < 8) : (initC key nonce n)[4 + i]? = some (le4 (key.drop (4 * i))) := by
  unfold initC cS
  rw [List.append_assoc, List.append_assoc, List.getElem?_append_right (by simp), List.getElem?_append_left (by simp; omega)]
  simp [h]
theorem initC_n (key nonce : List UInt8) (n : Nat) : (initC key nonce n)[12]? = some n := by
  unfold initC cS
  rw [List.append_assoc, List.getElem?_append_right (by simp)]; simp
theorem initC_nonce (key nonce : List UInt8) (n i : Nat) (h : i < 3) : (initC key nonce n)[13 + i]? = some (le4 (nonce.drop (4 * i))) := by
  unfold initC cS
  rw [List.getElem?_append_right (by simp)]
  have e : 13 + i - (List.length ([1634760805, 857760878, 2036477234, 1797285236] ++ List.map (fun i => le4 (key.drop (4 * i))) (List.range 8) ++ [n])) = i := by simp
  rw [e, List.getElem?_map, List.getElem?_range h]; rfl
/-- words of a state are words -/
structure OKC (s : List Nat) : Prop where
  len : s.length = 16
  lt : ∀ x ∈ s, x < 4294967296
theorem le4_lt (xs : List UInt8) : le4 xs < 4294967296 := by
  unfold le4
  split
  · next x0 x1 x2 x3 _ => have := x0.toNat_lt; have := x1.toNat_lt; have := x2.toNat_lt; have := x3.toNat_lt; omega
  · omega
theorem initC_ok (key nonce : List UInt8) (n : Nat) (hn : n < 4294967296) : OKC (initC key nonce n) := by
  refine ⟨initC_len _ _ _, fun x hx => ?_⟩
  unfold initC cS at hx
  simp only [List.mem_append, List.mem_map, List.mem_cons, List.not_mem_nil, or_false] at hx
  rcases hx with ((h | h) | h) | h
  · omega
  · obtain ⟨_, _, rfl⟩ := h; exact le4_lt _
  · omega
  · obtain ⟨_, _, rfl⟩ := h; exact le4_lt _
theorem OKC.get {s : List Nat} (h : OKC s) (i : Nat) (hi : i < 16) : ∃ x, s[i]? = some x ∧ x < 4294967296 := by
  have hl := h.len
  exact ⟨s[i]'(by omega), List.getElem?_eq_getElem _, h.lt _ (List.getElem_mem _)⟩
theorem OKC.quart {s : List Nat} (h : OKC s) {i j k l : Nat} (hi : i < 16) (hj : j < 16) (hk : k < 16) (hl : l < 16) : OKC (quart s i j k l) := by
  obtain ⟨a, ea, ha⟩ := h.get i hi
  obtain ⟨b, eb, hb⟩ := h.get j hj
  obtain ⟨c, ec, hc⟩ := h.get k hk
  obtain ⟨d, ed, hd⟩ := h.get l hl
  have hq := qr_lt a b c d ha hb hc hd
  have e : Go.Proofs.YtlncnjcbgfeaoaaDoor.quart s i j k l = S4 s i j k l (qr a b c d).1 (qr a b c d).2.1 (qr a b c d).2.2.1 (qr a b c d).2.2.2 := by
    unfold Go.Proofs.YtlncnjcbgfeaoaaDoor.quart; simp only [List.getD_eq_getElem?_getD, ea, eb, ec, ed, Option.getD_some]
  rw [e]
  unfold S4
  refine ⟨by simp [h.len], fun x hx => ?_⟩
  rcases List.mem_or_eq_of_mem_set hx with hx | rfl
  · rcases List.mem_or_eq_of_mem_set hx with hx | rfl
    · rcases List.mem_or_eq_of_mem_set hx with hx | rfl
      · rcases List.mem_or_eq_of_mem_set hx with hx | rfl
        · exact h.lt x hx
        · exact hq.1
      · exact hq.2.1
    · exact hq.2.2.1
  · exact hq.2.2.2
/-- the columns; the diagonals; so many of them -/
def q1 (s : List Nat) : Nat → List Nat
  | 0 => s
  | i + 1 => quart (q1 s i) i (4 + i) (8 + i) (12 + i)
def q2 (s : List Nat) : Nat → List Nat
  | 0 => s
  | i + 1 => quart (q2 s i) i (4 + (i + 1) % 4) (8 + (i + 2) % 4) (12 + (i + 3) % 4)
def dbl (s : List Nat) : List Nat := q2 (q1 s 4) 4
def rounds (s : List Nat) : Nat → List Nat
  | 0 => s
  | r + 1 => dbl (rounds s r)
theorem q1_ok {s : List Nat} (h : OKC s) (i : Nat) (hi : i ≤ 4) : OKC (q1 s i) := by
  induction i with
  | zero => exact h
  | succ i ih => exact (ih (by omega)).quart (by omega) (by omega) (by omega) (by omega)
theorem q2_ok {s : List Nat} (h : OKC s) (i : Nat) (hi : i ≤ 4) : OKC (q2 s i) := by
  induction i with
  | zero => exact h
  | succ i ih => exact (ih (by omega)).quart (by omega) (by omega) (by omega) (by omega)
theorem rounds_ok {s : List Nat} (h : OKC s) (r : Nat) : OKC (rounds s r) := by
  induction r with
  | zero => exact h
  | succ r ih => exact q2_ok (q1_ok ih 4 (by omega)) 4 (by omega)
/-- the block's bytes, so many words of them, then zeros -/
def outC (x s : List Nat) : Nat → List UInt8
  | 0 => List.replicate 64 0
  | i + 1 => putS (outC x s i) (4 * i) ((x.getD i 0 + s.getD i 0) % 4294967296) 4
theorem outC_len (x s : List Nat) (i : Nat) : (outC x s i).length = 64 := by
  induction i with
  | zero => simp [outC]
  | succ i ih => rw [outC, putS_len, ih]
/-- a block of the stream, out of the walk's sight -/
structure ST (key nonce : List UInt8) (n : Nat) (d : List UInt8) : Prop where
  h : outC (rounds (initC key nonce n) 10) (initC key nonce n) 16 = d
  len : d.length = 64
/-- the same of the state -/
structure STL (L : List Nat) (d : List UInt8) : Prop where
  h : outC (rounds L 10) L 16 = d
/-- equations that the walk must not see -/
structure EL (a b : List Nat) : Prop where
  h : a = b
structure EB (a b : List UInt8) : Prop where
  h : a = b
structure STX (X L : List Nat) (d : List UInt8) : Prop where
  h : outC X L 16 = d
theorem ST_ex (key nonce : List UInt8) (n : Nat) : ∃ d, ST key nonce n d := ⟨_, rfl, outC_len _ _ _⟩
theorem AB_box (w : World) (t : TypeId) (xs : List UInt8) : AB (w.alloc (.cells (xs.map B).toArray t)) w.heap.size t xs := heap_alloc_new w _
theorem AB.al {w : World} {g : Nat} {t : TypeId} {vs : List UInt8} (h : AB w g t vs) (o : Obj) : AB (w.alloc o) g t vs := h.grown (World.grownBy_alloc w o none) (by simp)
theorem AR.al {w : World} {g : Nat} {t : TypeId} {vs : List Nat} (h : AR w g t vs) (o : Obj) : AR (w.alloc o) g t vs := h.grown (World.grownBy_alloc w o none) (by simp)
/-- words stored into an array of the call's own -/
theorem L_storeR {w : World} {ops : Array Oper} {rest : List Oper} {o : Oper} {f : Act} {Q : Exit → Act → World → Prop} (hgd : o.guard = none) (t : TypeId) (x y : Operand) (ho : o.op = .store t x y)
    {g n : Nat} {old : List Nat} (d : List Nat) (hx : f.eval x = .pointer (some ⟨g, 0, none⟩)) (hy : f.eval y = .agg (d.map U).toArray) (hA : AR w g t old) (hi : (Tryd.prog.info? t).map (·.size) = some n) (hl : old.length = n) (hl2 : d.length = n)
    (h : ∀ w', AR w' g t d → w.grownBy w' (some g) → wpList Tryd.prog ops Q rest (f.put o.dst undef) w') : wpList Tryd.prog ops Q (o :: rest) f w := by
  refine wpList_store_row hgd t x y ho g _ hx hy t _ hA (by rw [List.size_toArray, List.length_map, hl2]; exact hi) (by simp [hl, hl2]) (by rw [Array.all_eq_true_iff_forall_mem]; intro v hv; obtain ⟨z, _, rfl⟩ := List.mem_map.1 (by simpa using hv : v ∈ d.map U); rfl) ?_
  exact h _ (setRow_heap _ _ _ _ _ _ hA) (grownBy_setRow w g _)
theorem iW : (Tryd.prog.info? 142).map (·.size) = some 16 := by kernel_rfl
/-- bytes stored into an array of the call's own -/
theorem L_storeAB {w : World} {ops : Array Oper} {rest : List Oper} {o : Oper} {f : Act} {Q : Exit → Act → World → Prop} (hgd : o.guard = none) (t : TypeId) (x y : Operand) (ho : o.op = .store t x y)
    {g n : Nat} {old d : List UInt8} (hx : f.eval x = .pointer (some ⟨g, 0, none⟩)) (hy : f.eval y = .agg (d.map B).toArray) (hA : AB w g t old) (hi : (Tryd.prog.info? t).map (·.size) = some n) (hl : old.length = n) (hl2 : d.length = n)
    (h : ∀ w', AB w' g t d → w.grownBy w' (some g) → wpList Tryd.prog ops Q rest (f.put o.dst undef) w') : wpList Tryd.prog ops Q (o :: rest) f w := by
  refine wpList_store_row hgd t x y ho g _ hx hy t _ hA (by rw [List.size_toArray, List.length_map, hl2]; exact hi) (by simp [hl, hl2]) (by rw [Array.all_eq_true_iff_forall_mem]; intro v hv; exact one_B _ v (by simpa using hv)) ?_
  exact h _ (setRow_heap _ _ _ _ _ _ hA) (grownBy_setRow w g _)
theorem AB.rng {w : World} {g : Nat} {t : TypeId} {vs : List UInt8} (h : AB w g t vs) : w.rangeAt g 0 (vs.map B) := fun j v hv => by
  rw [List.getElem?_map] at hv
  obtain ⟨x, hx, rfl⟩ := Option.map_eq_some_iff.1 hv
  rw [Nat.zero_add]; exact h.cell j x hx
theorem AR.rng {w : World} {g : Nat} {t : TypeId} {vs : List Nat} (h : AR w g t vs) : w.rangeAt g 0 (vs.map U) := fun j v hv => by
  rw [List.getElem?_map] at hv
  obtain ⟨x, hx, rfl⟩ := Option.map_eq_some_iff.1 hv
  rw [Nat.zero_add]; exact h.cell j x hx
theorem AB.from {w : World} {g : Nat} {t : TypeId} {vs : List UInt8} (h : AB w g t vs) (m : Nat) (hm : m ≤ vs.length) (hl : vs.length ≤ maxLen) : BS w (some ⟨g, m, none⟩) (vs.length - m) (vs.length - m) (vs.drop m) := by
  refine ⟨by simp, Nat.le_refl _, by omega, one_B _, (fun h => by cases h), fun ad had => ?_⟩
  cases had
  refine ⟨fun _ => rfl, fun q v hq => ?_⟩
  rw [List.getElem?_map, List.getElem?_drop] at hq
  obtain ⟨x, hx, rfl⟩ := Option.map_eq_some_iff.1 hq
  exact h.cell _ x hx
theorem run_sliceFrom {t e : TypeId} {n : Nat} (hu : Tryd.prog.underlying t = some (.array n e)) (he : Tryd.prog.elem t = e) (hn : Tryd.prog.arrayLen t = n) (hs : ∀ w, (Go.sizeOf e).run Tryd.prog w = .ok 1 w) (g m : Nat) (hm : m < n) (w : World) :
    (Instr.sliceAt t (.pointer (some ⟨g, 0, none⟩)) (some (.int .i64 (m : Int))) none none).run Tryd.prog w = .ok (.slice (some ⟨g, m, none⟩) (n - m) (n - m)) w := by
  have h := run_sliceAt_array_l (P := Tryd.prog) w t ⟨g, 0, none⟩ (by rw [hn, he]; exact hu) .i64 (m : Int) (by omega) (by rw [hn]; omega)
  rw [h, he, hs]
  simp only [Result.andThen, slicedAt, Int.toNat_natCast, hn]
  rw [if_neg (by omega)]
  congr 2
  simp only [Option.some.injEq, Addr.add, Nat.mul_one]
  split
  · next h0 => subst h0; rfl
  · simp
theorem szB : ∀ w, (Go.sizeOf 5).run Tryd.prog w = .ok 1 w := fun w => by have := tB.sizeOf (w := w); rwa [tB.elem] at this
theorem i64B : (Tryd.prog.info? 117).map (·.size) = some 64 := by kernel_rfl
set_option maxHeartbeats 4000000 in
theorem stir_any (w : World) {key nonce d : List UInt8} (hkl : key.length = 32) (hnl : nonce.length = 12) (n : Nat) (hn : n < 4294967296) (hD : ST key nonce n d) :
    Calls Tryd.prog 73 #[.agg (key.map B).toArray, .agg (nonce.map B).toArray, .int .u32 (n : Int)] w fun e w' => e = .returned (.agg (d.map B).toArray) ∧ Below w.heap.size w w' := by
  have hz1 : (w.alloc (.cells (key.map B).toArray 22)).heap.size = w.heap.size + 1 := by simp
  have hz2 : ((w.alloc (.cells (key.map B).toArray 22)).alloc (.cells (nonce.map B).toArray 31)).heap.size = w.heap.size + 1 + 1 := by simp
  have hA := ((AB_box w 22 key).al (.cells (nonce.map B).toArray 31)).al (.cells #[.int .u8 0, .int .u8 0, .int .u8 0, .int .u8 0, .int .u8 0, .int .u8 0, .int .u8 0, .int .u8 0, .int .u8 0, .int .u8 0, .int .u8 0, .int .u8 0, .int .u8 0, .int .u8 0, .int .u8 0, .int .u8 0, .int .u8 0, .int .u8 0, .int .u8 0, .int .u8 0, .int .u8 0, .int .u8 0, .int .u8 0, .int .u8 0, .int .u8 0, .int .u8 0, .int .u8 0, .int .u8 0, .int .u8 0, .int .u8 0, .int .u8 0, .int .u8 0, .int .u8 0, .int .u8 0, .int .u8 0, .int .u8 0, .int .u8 0, .int .u8 0, .int .u8 0, .int .u8 0, .int .u8 0, .int .u8 0, .int .u8 0, .int .u8 0, .int .u8 0, .int .u8 0, .int .u8 0, .int .u8 0, .int .u8 0, .int .u8 0, .int .u8 0, .int .u8 0, .int .u8 0, .int .u8 0, .int .u8 0, .int .u8 0, .int .u8 0, .int .u8 0, .int .u8 0, .int .u8 0, .int .u8 0, .int .u8 0, .int .u8 0, .int .u8 0] 117)
  have hN := (AB_box (w.alloc (.cells (key.map B).toArray 22)) 31 nonce).al (.cells #[.int .u8 0, .int .u8 0, .int .u8 0, .int .u8 0, .int .u8 0, .int .u8 0, .int .u8 0, .int .u8 0, .int .u8 0, .int .u8 0, .int .u8 0, .int .u8 0, .int .u8 0, .int .u8 0, .int .u8 0, .int .u8 0, .int .u8 0, .int .u8 0, .int .u8 0, .int .u8 0, .int .u8 0, .int .u8 0, .int .u8 0, .int .u8 0, .int .u8 0, .int .u8 0, .int .u8 0, .int .u8 0, .int .u8 0, .int .u8 0, .int .u8 0, .int .u8 0, .int .u8 0, .int .u8 0, .int .u8 0, .int .u8 0, .int .u8 0, .int .u8 0, .int .u8 0, .int .u8 0, .int .u8 0, .int .u8 0, .int .u8 0, .int .u8 0, .int .u8 0, .int .u8 0, .int .u8 0, .int .u8 0, .int .u8 0, .int .u8 0, .int .u8 0, .int .u8 0, .int .u8 0, .int .u8 0, .int .u8 0, .int .u8 0, .int .u8 0, .int .u8 0, .int .u8 0, .int .u8 0, .int .u8 0, .int .u8 0, .int .u8 0, .int .u8 0] 117)
  have hO : AB (((w.alloc (.cells (key.map B).toArray 22)).alloc (.cells (nonce.map B).toArray 31)).alloc (.cells #[.int .u8 0, .int .u8 0, .int .u8 0, .int .u8 0, .int .u8 0, .int .u8 0, .int .u8 0, .int .u8 0, .int .u8 0, .int .u8 0, .int .u8 0, .int .u8 0, .int .u8 0, .int .u8 0, .int .u8 0, .int .u8 0, .int .u8 0, .int .u8 0, .int .u8 0, .int .u8 0, .int .u8 0, .int .u8 0, .int .u8 0, .int .u8 0, .int .u8 0, .int .u8 0, .int .u8 0, .int .u8 0, .int .u8 0, .int .u8 0, .int .u8 0, .int .u8 0, .int .u8 0, .int .u8 0, .int .u8 0, .int .u8 0, .int .u8 0, .int .u8 0, .int .u8 0, .int .u8 0, .int .u8 0, .int .u8 0, .int .u8 0, .int .u8 0, .int .u8 0, .int .u8 0, .int .u8 0, .int .u8 0, .int .u8 0, .int .u8 0, .int .u8 0, .int .u8 0, .int .u8 0, .int .u8 0, .int .u8 0, .int .u8 0, .int .u8 0, .int .u8 0, .int .u8 0, .int .u8 0, .int .u8 0, .int .u8 0, .int .u8 0, .int .u8 0] 117)) ((w.alloc (.cells (key.map B).toArray 22)).alloc (.cells (nonce.map B).toArray 31)).heap.size 117 (List.replicate 64 0) := heap_alloc_new _ _
  have hb : Below w.heap.size w _ := ((below_alloc w (.cells (key.map B).toArray 22)).alloc (by simp) (.cells (nonce.map B).toArray 31)).alloc (by simp; omega) (.cells #[.int .u8 0, .int .u8 0, .int .u8 0, .int .u8 0, .int .u8 0, .int .u8 0, .int .u8 0, .int .u8 0, .int .u8 0, .int .u8 0, .int .u8 0, .int .u8 0, .int .u8 0, .int .u8 0, .int .u8 0, .int .u8 0, .int .u8 0, .int .u8 0, .int .u8 0, .int .u8 0, .int .u8 0, .int .u8 0, .int .u8 0, .int .u8 0, .int .u8 0, .int .u8 0, .int .u8 0, .int .u8 0, .int .u8 0, .int .u8 0, .int .u8 0, .int .u8 0, .int .u8 0, .int .u8 0, .int .u8 0, .int .u8 0, .int .u8 0, .int .u8 0, .int .u8 0, .int .u8 0, .int .u8 0, .int .u8 0, .int .u8 0, .int .u8 0, .int .u8 0, .int .u8 0, .int .u8 0, .int .u8 0, .int .u8 0, .int .u8 0, .int .u8 0, .int .u8 0, .int .u8 0, .int .u8 0, .int .u8 0, .int .u8 0, .int .u8 0, .int .u8 0, .int .u8 0, .int .u8 0, .int .u8 0, .int .u8 0, .int .u8 0, .int .u8 0] 117)
  rw [hz2] at hO
  rw [hz1] at hN
  have h4 : partC (initC key nonce n) 4 = [1634760805, 857760878, 2036477234, 1797285236, 0, 0, 0, 0, 0, 0, 0, 0, 0, 0, 0, 0] := rfl
  have hLk := fun i => initC_key key nonce n i
  have hLn := initC_n key nonce n
  have hLo := fun i => initC_nonce key nonce n i
  have hok := initC_ok key nonce n hn
  have hst : STL (initC key nonce n) d := ⟨hD.h⟩
  obtain ⟨L, hL⟩ : ∃ L, initC key nonce n = L := ⟨_, rfl⟩
  rw [hL] at h4 hLn hok hst
  simp only [hL] at hLk hLo
  have H4 := Lib.hid h4
  have HLk := Lib.hid hLk
  have HLn := Lib.hid hLn
  have HLo := Lib.hid hLo
  have HOK := Lib.hid hok
  have HST := Lib.hid hst
  have hdl := hD.len
  clear hD h4 hLk hLn hLo hok hst hL hz1 hz2
  go_enter Tryd.func73, Tryd.ntmps73
  go_upto_region 1 with (fail)
  generalize (World.alloc _ _) = W1 at *
  have hg0 := hA.lt
  have hg1 := hN.lt
  have hg2 := hO.lt
  go_upto_region 2 with (refine L_storeR rfl _ _ _ rfl [1634760805, 857760878, 2036477234, 1797285236, 0, 0, 0, 0, 0, 0, 0, 0, 0, 0, 0, 0] rfl rfl (show AR (W1.alloc _) W1.heap.size 142 (List.replicate 16 0) from heap_alloc_new W1 _) iW (by simp) rfl ?_; intro w2 hS2 hgr2)
  rw [← H4.out] at hS2
  have hA2 := (hA.al _).grown hgr2 (by simp; omega)
  have hN2 := (hN.al _).grown hgr2 (by simp; omega)
  have hO2 := (hO.al _).grown hgr2 (by simp; omega)
  have hb2 : Below w.heap.size w w2 := (hb.alloc hb.size _).grown hgr2 (by simp; omega) (fun k hk => by cases hk; exact hb.size)
  obtain ⟨g7, hg7⟩ : ∃ g7, W1.heap.size = g7 := ⟨_, rfl⟩
  rw [hg7] at hS2 hg0 hg1 hg2 ⊢
  have HA2 := Lib.hid hA2
  have HN2 := Lib.hid hN2
  have HO2 := Lib.hid hO2
  have HB2 := Lib.hid hb2
  have hsk := fun m hm => run_sliceFrom Tryd.underlying22 (by kernel_rfl) (by kernel_rfl) szB w.heap.size m hm
  have hsn := fun m hm => run_sliceFrom Tryd.underlying31 (by kernel_rfl) (by kernel_rfl) szB (w.heap.size + 1) m hm
  have Hsk := Lib.hid hsk
  have Hsn := Lib.hid hsn
  clear hA hN hO hb hA2 hN2 hO2 hb2 hg7 hgr2 hsk hsn
  go_wp2
  go_loopw [16] (fun s16 wr => ∃ i : Nat, i ≤ 8 ∧ s16 = .int .i64 (i : Int) ∧ AR wr g7 142 (partC L (4 + i)) ∧ w2.grownBy wr (some g7)) (fun s16 _ => 8 - (intOf s16).toNat)
  case atStart => exact ⟨0, by omega, rfl, hS2, World.grownBy.refl w2 _⟩
  case round =>
    obtain ⟨i, hi, rfl, hS, hg⟩ := hrel
    clear hS2
    by_cases hlt : i < 8
    · obtain ⟨x0, x1, x2, x3, r, hd⟩ := drop4 key i (by omega)
      have hAr := HA2.out.grown hg (by simp; omega)
      have hbs := hAr.from (4 * i) (by omega) (by rw [hkl]; unfold maxLen; omega)
      rw [hkl] at hbs
      have hv := HLk.out i hlt
      rw [hd, show le4 (x0 :: x1 :: x2 :: x3 :: r) = le4 [x0, x1, x2, x3] from rfl] at hv
      have hps := partC_set L (4 + i) _ HOK.out.len (by omega) hv
      have hpg := partC_get L (4 + i) HOK.out.len (by omega)
      have Hd := Lib.hid hd
      have Hps := Lib.hid hps
      have HS := Lib.hid hS
      have HG := Lib.hid hg
      have hcell := hS.cell (4 + i) 0 hpg
      have hfr := hS.fr (4 + i)
      obtain ⟨m4, hm4⟩ : ∃ m4, 4 * i = m4 := ⟨_, rfl⟩
      have h4i : 4 * (i : Int) = (m4 : Int) := by omega
      obtain ⟨m5, hm5⟩ : ∃ m5, 4 + i = m5 := ⟨_, rfl⟩
      have h5i : 4 + (i : Int) = (m5 : Int) := by omega
      have hm16 : m5 < 16 := by omega
      rw [hm4] at hbs
      rw [hm5] at hcell hfr
      have HM5 := Lib.hid hm5
      have hsl := Hsk.out m4 (by omega)
      have Hbs := Lib.hid hbs
      clear hd hS hg hv hps hpg hAr hm4 hm5 hbs
      go_upto_region 6 with (go_at_call 82; refine (low4_any _ Hbs.out x0 x1 x2 x3 r (by rw [← Hd.out]; congr 1; omega)).mono ?_; rintro e w' ⟨rfl, mq, rfl⟩; have hcq : (wr.drewN mq).cell? ⟨g7, m5, none⟩ = some (.int .u32 0) := hcell; have hfq : (wr.drewN mq).frozen? ⟨g7, m5, none⟩ = false := hfr)
      have hS3 := (HS.out.drewN mq).set_ m5 (le4 [x0, x1, x2, x3])
      have hg3 := grown_set (grown_drewN HG.out mq) m5 (.int .u32 ((le4 [x0, x1, x2, x3] : Nat) : Int))
      have e5 : (partC L (4 + i)).set m5 (le4 [x0, x1, x2, x3]) = partC L (4 + (i + 1)) := by rw [← HM5.out]; exact Hps.out
      rw [e5] at hS3
      have HS3 := Lib.hid hS3
      have HG3 := Lib.hid hg3
      clear e5 hS3 hg3 hcell hfr hcq hfq h4i h5i hsl
      go_wp2
      go_roundw
      case rel => exact ⟨i + 1, by omega, by go_num, HS3.out, HG3.out⟩
      case measure => simp [intOf]; omega
    · obtain rfl : i = 8 := by omega
      rw [show ((8 : Nat) : Int) = 8 from rfl]
      have hS' : AR wr g7 142 (partC L 12) := hS
      have hc12 := hS'.cell 12 0 (partC_get L 12 HOK.out.len (by omega))
      have hf12 := hS'.fr 12
      have h13 := hS'.set_ 12 n
      rw [partC_set L 12 n HOK.out.len (by omega) HLn.out] at h13
      have hg13 := grown_set hg 12 (.int .u32 (n : Int))
      have H13 := Lib.hid h13
      have HG13 := Lib.hid hg13
      clear hS hS' hg h13 hg13
      go_upto_region 8 with (fail)
      clear hc12 hf12
      generalize World.setCell _ _ _ = w3 at *
      go_wp2
      go_loopw [29] (fun s29 wr => ∃ i : Nat, i ≤ 3 ∧ s29 = .int .i64 (i : Int) ∧ AR wr g7 142 (partC L (13 + i)) ∧ w2.grownBy wr (some g7)) (fun s29 _ => 3 - (intOf s29).toNat)
      case atStart => exact ⟨0, by omega, rfl, H13.out, HG13.out⟩
      case round =>
        obtain ⟨i, hi, rfl, hS, hg⟩ := hrel
        by_cases hlt3 : i < 3
        · obtain ⟨x0, x1, x2, x3, r, hd⟩ := drop4 nonce i (by omega)
          have hNr := HN2.out.grown hg (by simp; omega)
          have hbs := hNr.from (4 * i) (by omega) (by rw [hnl]; unfold maxLen; omega)
          rw [hnl] at hbs
          have hv := HLo.out i hlt3
          rw [hd, show le4 (x0 :: x1 :: x2 :: x3 :: r) = le4 [x0, x1, x2, x3] from rfl] at hv
          have hps := partC_set L (13 + i) _ HOK.out.len (by omega) hv
          have hpg := partC_get L (13 + i) HOK.out.len (by omega)
          have Hd := Lib.hid hd
          have Hps := Lib.hid hps
          have HS := Lib.hid hS
          have HG := Lib.hid hg
          have hcell := hS.cell (13 + i) 0 hpg
          have hfr := hS.fr (13 + i)
          obtain ⟨m4, hm4⟩ : ∃ m4, 4 * i = m4 := ⟨_, rfl⟩
          have h4i : 4 * (i : Int) = (m4 : Int) := by omega
          obtain ⟨m5, hm5⟩ : ∃ m5, 13 + i = m5 := ⟨_, rfl⟩
          have h5i : 13 + (i : Int) = (m5 : Int) := by omega
          have hm16 : m5 < 16 := by omega
          rw [hm4] at hbs
          rw [hm5] at hcell hfr
          have HM5 := Lib.hid hm5
          have hsl := Hsn.out m4 (by omega)
          have Hbs := Lib.hid hbs
          clear hd hS hg hv hps hpg hNr hm4 hm5 hbs
          go_upto_region 12 with (go_at_call 82; refine (low4_any _ Hbs.out x0 x1 x2 x3 r (by rw [← Hd.out]; congr 1; omega)).mono ?_; rintro e w' ⟨rfl, mq, rfl⟩; have hcq : (wr.drewN mq).cell? ⟨g7, m5, none⟩ = some (.int .u32 0) := hcell; have hfq : (wr.drewN mq).frozen? ⟨g7, m5, none⟩ = false := hfr)
          have hS3 := (HS.out.drewN mq).set_ m5 (le4 [x0, x1, x2, x3])
          have hg3 := grown_set (grown_drewN HG.out mq) m5 (.int .u32 ((le4 [x0, x1, x2, x3] : Nat) : Int))
          have e5 : (partC L (13 + i)).set m5 (le4 [x0, x1, x2, x3]) = partC L (13 + (i + 1)) := by rw [← HM5.out]; exact Hps.out
          rw [e5] at hS3
          have HS3 := Lib.hid hS3
          have HG3 := Lib.hid hg3
          clear e5 hS3 hg3 hcell hfr hcq hfq h4i h5i hsl
          go_wp2
          go_roundw
          case rel => exact ⟨i + 1, by omega, by go_num, HS3.out, HG3.out⟩
          case measure => simp [intOf]; omega
        · obtain rfl : i = 3 := by omega
          rw [show ((3 : Nat) : Int) = 3 from rfl]
          have hS' : AR wr g7 142 (partC L 16) := hS
          rw [partC_all L HOK.out.len] at hS'
          have hr7 := hS'.rng
          have h16 : (Tryd.prog.info? 142).map (·.size) = some (L.map U).length := by rw [List.length_map, HOK.out.len]; exact iW
          have H16 := Lib.hid h16
          have HS7 := Lib.hid hS'
          have HG7 := Lib.hid hg
          have hok := HOK.out.len
          clear hS hS' hg h16 H13 HG13
          go_upto_region 14 with (first
            | (refine wpList_load_mid rfl _ _ rfl _ _ rfl (L.map U) _ hr7 Tryd.underlying142 rfl H16.out ?_)
            | (refine L_storeR rfl _ _ _ rfl L rfl rfl (show AR (wr.alloc _) wr.heap.size 142 (List.replicate 16 0) from heap_alloc_new wr _) iW (by simp) hok ?_; intro w5 hX5 hg5))
          have hb5 : wr.heap.size ≤ w5.heap.size := by have := hg5.size; simp at this; omega
          obtain ⟨g10, hg10⟩ : ∃ g10, wr.heap.size = g10 := ⟨_, rfl⟩
          rw [hg10] at hX5 ⊢
          have hgr := HG7.out.size
          have hG5 : wr.grownBy w5 none := ⟨hg5.os, hg5.tape, hg5.output, hb5, fun k hk _ => (hg5.block k (by simp; omega) (by simp; omega)).trans (Below.heap_alloc wr _ k hk)⟩
          have hS5 := HS7.out.grown hG5 (by simp)
          have hG5' : w2.grownBy w5 (some g7) := grown_trans HG7.out (grown_weak hG5)
          have HS5 := Lib.hid hS5
          have HG5 := Lib.hid hG5'
          have l10 := hX5.lt
          have hg7l := hS5.lt
          have hgs : g7 < g10 := by have := HS7.out.lt; omega
          clear hg5 hG5 hS5 hG5' hr7 H16 HS7 HG7 hg10
          go_wp2
          go_loopw [41] (fun s41 wr => ∃ r : Nat, r ≤ 10 ∧ s41 = .int .i64 (r : Int) ∧ AR wr g10 142 (rounds L r) ∧ w5.grownBy wr (some g10)) (fun s41 _ => 10 - (intOf s41).toNat)
          case atStart => exact ⟨0, by omega, rfl, hX5, World.grownBy.refl w5 _⟩
          case round =>
            obtain ⟨r, hr, rfl, hX, hgx⟩ := hrel
            clear hX5
            by_cases hlt10 : r < 10
            · have hox := rounds_ok HOK.out r
              obtain ⟨X, hXe⟩ : ∃ X, rounds L r = X := ⟨_, rfl⟩
              rw [hXe] at hX hox
              have HNX : EL (rounds L (r + 1)) (q2 (q1 X 4) 4) := ⟨by rw [← hXe]; rfl⟩
              have HOX := Lib.hid hox
              have HX0 := Lib.hid hX
              have HGX := Lib.hid hgx
              clear hXe hox hX hgx
              go_wp2
              rw [show decide ((r : Int) < 10) = true from decide_eq_true (by omega)]
              go_loopw [43] (fun s43 wq => ∃ i : Nat, i ≤ 4 ∧ s43 = .int .i64 (i : Int) ∧ AR wq g10 142 (q1 X i) ∧ w5.grownBy wq (some g10)) (fun s43 _ => 4 - (intOf s43).toNat)
              case atStart => exact ⟨0, by omega, rfl, HX0.out, HGX.out⟩
              case round =>
                obtain ⟨i, hi, rfl, hQ, hgq⟩ := hrel
                by_cases hl4 : i < 4
                · have hokq := q1_ok HOX.out i hi
                  obtain ⟨j4, hj4⟩ : ∃ j4, 4 + i = j4 := ⟨_, rfl⟩
                  obtain ⟨j8, hj8⟩ : ∃ j8, 8 + i = j8 := ⟨_, rfl⟩
                  obtain ⟨j12, hj12⟩ : ∃ j12, 12 + i = j12 := ⟨_, rfl⟩
                  have e4 : 4 + (i : Int) = (j4 : Int) := by omega
                  have e8 : 8 + (i : Int) = (j8 : Int) := by omega
                  have e12 : 12 + (i : Int) = (j12 : Int) := by omega
                  have hix : IX (q1 X i) i j4 j8 j12 := ⟨hokq.len, by omega, by omega, by omega, by omega, by omega, by omega, by omega, by omega, by omega, by omega⟩
                  obtain ⟨T, hT⟩ : ∃ T, quart (q1 X i) i j4 j8 j12 = T := ⟨_, rfl⟩
                  have Hst : EL (q1 X (i + 1)) T := ⟨by rw [← hT, ← hj4, ← hj8, ← hj12]; rfl⟩
                  obtain ⟨v0, ev0, lv0⟩ := hokq.get i hix.hi
                  obtain ⟨v1, ev1, lv1⟩ := hokq.get j4 hix.hj
                  obtain ⟨v2, ev2, lv2⟩ := hokq.get j8 hix.hk
                  obtain ⟨v3, ev3, lv3⟩ := hokq.get j12 hix.hl
                  have hc := quarter_any _ hQ hix ev0 ev1 ev2 ev3 lv0 lv1 lv2 lv3
                  rw [hT] at hc
                  have HCq := Lib.hid hc
                  have Hgq := Lib.hid hgq
                  clear hokq hj4 hj8 hj12 hix hT hc ev0 ev1 ev2 ev3 lv0 lv1 lv2 lv3 hQ hgq
                  go_wp2_with (go_at_call 90; refine HCq.out.mono ?_; rintro e w' ⟨rfl, hQ2, hg2⟩)
                  clear e4 e8 e12 HCq
                  have HQ2 := Lib.hid hQ2
                  have HG2 := Lib.hid (grown_trans Hgq.out hg2)
                  clear hQ2 hg2
                  go_roundw
                  case rel => exact ⟨i + 1, by omega, by go_num, by rw [Hst.h]; exact HQ2.out, HG2.out⟩
                  case measure => simp [intOf]; omega
                · obtain rfl : i = 4 := by omega
                  rw [show ((4 : Nat) : Int) = 4 from rfl]
                  have hoy := q1_ok HOX.out 4 (by omega)
                  obtain ⟨Y, hY⟩ : ∃ Y, q1 X 4 = Y := ⟨_, rfl⟩
                  rw [hY] at hQ hoy
                  have HNY : EL (rounds L (r + 1)) (q2 Y 4) := ⟨by rw [← hY]; exact HNX.h⟩
                  have HOY := Lib.hid hoy
                  have HQ0 := Lib.hid hQ
                  have HGQ := Lib.hid hgq
                  clear hY hoy hQ hgq HNX HX0 HGX
                  go_wp2
                  go_loopw [55] (fun s55 wq => ∃ i : Nat, i ≤ 4 ∧ s55 = .int .i64 (i : Int) ∧ AR wq g10 142 (q2 Y i) ∧ w5.grownBy wq (some g10)) (fun s55 _ => 4 - (intOf s55).toNat)
                  case atStart => exact ⟨0, by omega, rfl, HQ0.out, HGQ.out⟩
                  case round =>
                    obtain ⟨i, hi, rfl, hQ, hgq⟩ := hrel
                    by_cases hl4 : i < 4
                    · have hokq := q2_ok HOY.out i hi
                      obtain ⟨j4, hj4⟩ : ∃ j4, 4 + (i + 1) % 4 = j4 := ⟨_, rfl⟩
                      obtain ⟨j8, hj8⟩ : ∃ j8, 8 + (i + 2) % 4 = j8 := ⟨_, rfl⟩
                      obtain ⟨j12, hj12⟩ : ∃ j12, 12 + (i + 3) % 4 = j12 := ⟨_, rfl⟩
                      have e4 : 4 + ((i : Int) + 1) % 4 = (j4 : Int) := by omega
                      have e8 : 8 + ((i : Int) + 2) % 4 = (j8 : Int) := by omega
                      have e12 : 12 + ((i : Int) + 3) % 4 = (j12 : Int) := by omega
                      have hix : IX (q2 Y i) i j4 j8 j12 := ⟨hokq.len, by omega, by omega, by omega, by omega, by omega, by omega, by omega, by omega, by omega, by omega⟩
                      obtain ⟨T, hT⟩ : ∃ T, quart (q2 Y i) i j4 j8 j12 = T := ⟨_, rfl⟩
                      have Hst : EL (q2 Y (i + 1)) T := ⟨by rw [← hT, ← hj4, ← hj8, ← hj12]; rfl⟩
                      obtain ⟨v0, ev0, lv0⟩ := hokq.get i hix.hi
                      obtain ⟨v1, ev1, lv1⟩ := hokq.get j4 hix.hj
                      obtain ⟨v2, ev2, lv2⟩ := hokq.get j8 hix.hk
                      obtain ⟨v3, ev3, lv3⟩ := hokq.get j12 hix.hl
                      have hc := quarter_any _ hQ hix ev0 ev1 ev2 ev3 lv0 lv1 lv2 lv3
                      rw [hT] at hc
                      have HCq := Lib.hid hc
                      have Hgq := Lib.hid hgq
                      clear hokq hj4 hj8 hj12 hix hT hc ev0 ev1 ev2 ev3 lv0 lv1 lv2 lv3 hQ hgq
                      go_wp2_with (go_at_call 90; refine HCq.out.mono ?_; rintro e w' ⟨rfl, hQ2, hg2⟩)
                      clear e4 e8 e12 HCq
                      have HQ2 := Lib.hid hQ2
                      have HG2 := Lib.hid (grown_trans Hgq.out hg2)
                      clear hQ2 hg2
                      go_roundw
                      case rel => exact ⟨i + 1, by omega, by go_num, by rw [Hst.h]; exact HQ2.out, HG2.out⟩
                      case measure => simp [intOf]; omega
                    · obtain rfl : i = 4 := by omega
                      rw [show ((4 : Nat) : Int) = 4 from rfl]
                      obtain ⟨Z, hZ⟩ : ∃ Z, q2 Y 4 = Z := ⟨_, rfl⟩
                      rw [hZ] at hQ
                      have HNZ : EL (rounds L (r + 1)) Z := ⟨by rw [← hZ]; exact HNY.h⟩
                      have HQ9 := Lib.hid hQ
                      have HG9 := Lib.hid hgq
                      clear hZ hQ hgq HQ0 HGQ HNY
                      go_wp2
                      go_roundw
                      case rel => exact ⟨r + 1, by omega, by go_num, by rw [HNZ.h]; exact HQ9.out, HG9.out⟩
                      case measure => simp [intOf]; omega
            · obtain rfl : r = 10 := by omega
              rw [show ((10 : Nat) : Int) = 10 from rfl]
              have hox := rounds_ok HOK.out 10
              have hstx : STX (rounds L 10) L d := ⟨HST.out.h⟩
              obtain ⟨X, hXe⟩ : ∃ X, rounds L 10 = X := ⟨_, rfl⟩
              rw [hXe] at hX hox hstx
              have hS6 := HS5.out.grown hgx (by simp; omega)
              have HOX := Lib.hid hox
              have HX6 := Lib.hid hX
              have HS6 := Lib.hid hS6
              have HGX := Lib.hid hgx
              have hg5s := HG5.out.size
              have hgxs := hgx.size
              have l10' := hX.lt
              have hO5 := (HO2.out.grown HG5.out (by simp; omega)).grown hgx (by simp; omega)
              have HO5 := Lib.hid hO5
              have hb5 : Below w.heap.size w wr := (HB2.out.grown HG5.out (by have := HB2.out.size; omega) (fun k hk => by cases hk; omega)).grown hgx (by have := HB2.out.size; omega) (fun k hk => by cases hk; omega)
              have HB5 := Lib.hid hb5
              have hl6 := HO2.out.lt
              obtain ⟨W5, rfl⟩ : ∃ W5, W5 = wr := ⟨wr, rfl⟩
              clear hXe hox hX hgx hS6 hO5 hb5 HST
              go_upto_region 28 with (fail)
              have hZ : AB (W5.alloc (.cells #[.int .u8 0, .int .u8 0, .int .u8 0, .int .u8 0, .int .u8 0, .int .u8 0, .int .u8 0, .int .u8 0, .int .u8 0, .int .u8 0, .int .u8 0, .int .u8 0, .int .u8 0, .int .u8 0, .int .u8 0, .int .u8 0, .int .u8 0, .int .u8 0, .int .u8 0, .int .u8 0, .int .u8 0, .int .u8 0, .int .u8 0, .int .u8 0, .int .u8 0, .int .u8 0, .int .u8 0, .int .u8 0, .int .u8 0, .int .u8 0, .int .u8 0, .int .u8 0, .int .u8 0, .int .u8 0, .int .u8 0, .int .u8 0, .int .u8 0, .int .u8 0, .int .u8 0, .int .u8 0, .int .u8 0, .int .u8 0, .int .u8 0, .int .u8 0, .int .u8 0, .int .u8 0, .int .u8 0, .int .u8 0, .int .u8 0, .int .u8 0, .int .u8 0, .int .u8 0, .int .u8 0, .int .u8 0, .int .u8 0, .int .u8 0, .int .u8 0, .int .u8 0, .int .u8 0, .int .u8 0, .int .u8 0, .int .u8 0, .int .u8 0, .int .u8 0] 117)) W5.heap.size 117 (outC X L 0) := heap_alloc_new W5 _
              have hX7 := HX6.out.al (.cells #[.int .u8 0, .int .u8 0, .int .u8 0, .int .u8 0, .int .u8 0, .int .u8 0, .int .u8 0, .int .u8 0, .int .u8 0, .int .u8 0, .int .u8 0, .int .u8 0, .int .u8 0, .int .u8 0, .int .u8 0, .int .u8 0, .int .u8 0, .int .u8 0, .int .u8 0, .int .u8 0, .int .u8 0, .int .u8 0, .int .u8 0, .int .u8 0, .int .u8 0, .int .u8 0, .int .u8 0, .int .u8 0, .int .u8 0, .int .u8 0, .int .u8 0, .int .u8 0, .int .u8 0, .int .u8 0, .int .u8 0, .int .u8 0, .int .u8 0, .int .u8 0, .int .u8 0, .int .u8 0, .int .u8 0, .int .u8 0, .int .u8 0, .int .u8 0, .int .u8 0, .int .u8 0, .int .u8 0, .int .u8 0, .int .u8 0, .int .u8 0, .int .u8 0, .int .u8 0, .int .u8 0, .int .u8 0, .int .u8 0, .int .u8 0, .int .u8 0, .int .u8 0, .int .u8 0, .int .u8 0, .int .u8 0, .int .u8 0, .int .u8 0, .int .u8 0] 117)
              have hS7 := HS6.out.al (.cells #[.int .u8 0, .int .u8 0, .int .u8 0, .int .u8 0, .int .u8 0, .int .u8 0, .int .u8 0, .int .u8 0, .int .u8 0, .int .u8 0, .int .u8 0, .int .u8 0, .int .u8 0, .int .u8 0, .int .u8 0, .int .u8 0, .int .u8 0, .int .u8 0, .int .u8 0, .int .u8 0, .int .u8 0, .int .u8 0, .int .u8 0, .int .u8 0, .int .u8 0, .int .u8 0, .int .u8 0, .int .u8 0, .int .u8 0, .int .u8 0, .int .u8 0, .int .u8 0, .int .u8 0, .int .u8 0, .int .u8 0, .int .u8 0, .int .u8 0, .int .u8 0, .int .u8 0, .int .u8 0, .int .u8 0, .int .u8 0, .int .u8 0, .int .u8 0, .int .u8 0, .int .u8 0, .int .u8 0, .int .u8 0, .int .u8 0, .int .u8 0, .int .u8 0, .int .u8 0, .int .u8 0, .int .u8 0, .int .u8 0, .int .u8 0, .int .u8 0, .int .u8 0, .int .u8 0, .int .u8 0, .int .u8 0, .int .u8 0, .int .u8 0, .int .u8 0] 117)
              have hO7 := HO5.out.al (.cells #[.int .u8 0, .int .u8 0, .int .u8 0, .int .u8 0, .int .u8 0, .int .u8 0, .int .u8 0, .int .u8 0, .int .u8 0, .int .u8 0, .int .u8 0, .int .u8 0, .int .u8 0, .int .u8 0, .int .u8 0, .int .u8 0, .int .u8 0, .int .u8 0, .int .u8 0, .int .u8 0, .int .u8 0, .int .u8 0, .int .u8 0, .int .u8 0, .int .u8 0, .int .u8 0, .int .u8 0, .int .u8 0, .int .u8 0, .int .u8 0, .int .u8 0, .int .u8 0, .int .u8 0, .int .u8 0, .int .u8 0, .int .u8 0, .int .u8 0, .int .u8 0, .int .u8 0, .int .u8 0, .int .u8 0, .int .u8 0, .int .u8 0, .int .u8 0, .int .u8 0, .int .u8 0, .int .u8 0, .int .u8 0, .int .u8 0, .int .u8 0, .int .u8 0, .int .u8 0, .int .u8 0, .int .u8 0, .int .u8 0, .int .u8 0, .int .u8 0, .int .u8 0, .int .u8 0, .int .u8 0, .int .u8 0, .int .u8 0, .int .u8 0, .int .u8 0] 117)
              have hb7 := HB5.out.alloc HB5.out.size (.cells #[.int .u8 0, .int .u8 0, .int .u8 0, .int .u8 0, .int .u8 0, .int .u8 0, .int .u8 0, .int .u8 0, .int .u8 0, .int .u8 0, .int .u8 0, .int .u8 0, .int .u8 0, .int .u8 0, .int .u8 0, .int .u8 0, .int .u8 0, .int .u8 0, .int .u8 0, .int .u8 0, .int .u8 0, .int .u8 0, .int .u8 0, .int .u8 0, .int .u8 0, .int .u8 0, .int .u8 0, .int .u8 0, .int .u8 0, .int .u8 0, .int .u8 0, .int .u8 0, .int .u8 0, .int .u8 0, .int .u8 0, .int .u8 0, .int .u8 0, .int .u8 0, .int .u8 0, .int .u8 0, .int .u8 0, .int .u8 0, .int .u8 0, .int .u8 0, .int .u8 0, .int .u8 0, .int .u8 0, .int .u8 0, .int .u8 0, .int .u8 0, .int .u8 0, .int .u8 0, .int .u8 0, .int .u8 0, .int .u8 0, .int .u8 0, .int .u8 0, .int .u8 0, .int .u8 0, .int .u8 0, .int .u8 0, .int .u8 0, .int .u8 0, .int .u8 0] 117)
              obtain ⟨g13, hg13⟩ : ∃ g13, W5.heap.size = g13 := ⟨_, rfl⟩
              rw [hg13] at hZ ⊢
              have hsl := fun m hm => run_sliceFrom Tryd.underlying117 (by kernel_rfl) (by kernel_rfl) szB g13 m hm
              have Hsl := Lib.hid hsl
              have l13 : g10 < g13 := by omega
              have HX7 := Lib.hid hX7
              have HS7 := Lib.hid hS7
              have HO7 := Lib.hid hO7
              have HB7 := Lib.hid hb7
              clear hX7 hS7 hO7 hb7 hsl HX6 HS6 HO5 HB5 hg13
              generalize World.alloc _ _ = W7 at *
              go_wp2
              go_loopw [74] (fun s74 wr => ∃ i : Nat, i ≤ 16 ∧ s74 = .int .i64 (i : Int) ∧ AB wr g13 117 (outC X L i) ∧ W7.grownBy wr (some g13)) (fun s74 _ => 16 - (intOf s74).toNat)
              case atStart => exact ⟨0, by omega, rfl, hZ, World.grownBy.refl W7 _⟩
              case round =>
                obtain ⟨i, hi, rfl, hZ2, hgz⟩ := hrel
                clear hZ
                by_cases hlt16 : i < 16
                · obtain ⟨x, ex, lx⟩ := HOX.out.get i hlt16
                  obtain ⟨y, ey, ly⟩ := HOK.out.get i hlt16
                  have hX8 := HX7.out.grown hgz (by simp; omega)
                  have hS8 := HS7.out.grown hgz (by simp; omega)
                  have q1 := hX8.cell i x ex
                  have q2 := hS8.cell i y ey
                  have lX := hX8.lt
                  have lS := hS8.lt
                  obtain ⟨m4, hm4⟩ : ∃ m4, 4 * i = m4 := ⟨_, rfl⟩
                  obtain ⟨v, hv⟩ : ∃ v, (x + y) % 4294967296 = v := ⟨_, rfl⟩
                  have hstep : EB (outC X L (i + 1)) (putS (outC X L i) m4 v 4) := ⟨by rw [outC, List.getD_eq_getElem?_getD, List.getD_eq_getElem?_getD, ex, ey, ← hm4, ← hv]; rfl⟩
                  have hv32 : v < 4294967296 := by omega
                  have h4i : 4 * (i : Int) = (m4 : Int) := by omega
                  have hvi : ((x : Int) + (y : Int)) % 4294967296 = (v : Int) := by omega
                  have hwv : IntKind.u32.wrap ((x : Int) + (y : Int)) = (v : Int) := by rw [IntKind.wrap_u32']; exact hvi
                  have hwm : IntKind.i64.wrap (m4 : Int) = (m4 : Int) := IntWalk.i64_in _ (by omega)
                  have hsl := Hsl.out m4 (by omega)
                  have hol := outC_len X L i
                  obtain ⟨V, hV⟩ : ∃ V, outC X L i = V := ⟨_, rfl⟩
                  have hZd : AB wr.drew g13 117 V := by rw [← hV]; exact hZ2
                  rw [hV] at hol hstep
                  have hm60 : m4 + 4 ≤ V.length := by omega
                  have hm64 : 4 ≤ 64 - m4 := by omega
                  have HZd := Lib.hid hZd
                  have Hgz := Lib.hid hgz
                  clear hX8 hS8 hm4 hv hol hV hZd hZ2 hgz ex ey
                  go_upto_region 31 with (fail)
                  go_region_held3 (fun w' => w'.cell? ⟨g10, i, none⟩ = some (.int .u32 (x : Int)) ∧ w'.cell? ⟨g7, i, none⟩ = some (.int .u32 (y : Int)))
                    (first | go_keep | exact ⟨k1, k2⟩)
                    (first
                    | (go_at_call 91; (with_reducible refine (put4_any _ HZd.out hm64 hm60 v hv32).mono ?_); rintro e w' ⟨rfl, hZ3, hg3⟩; have k1 : w'.cell? ⟨g10, i, none⟩ = some (.int .u32 (x : Int)) := ((World.cell?_of_block (a := ⟨g10, i, none⟩) (hg3.block g10 lX (by simp; omega))).trans q1); have k2 : w'.cell? ⟨g7, i, none⟩ = some (.int .u32 (y : Int)) := ((World.cell?_of_block (a := ⟨g7, i, none⟩) (hg3.block g7 lS (by simp; omega))).trans q2)))
                  have hgz3 : W7.grownBy w' (some g13) := grown_trans (grown_drew Hgz.out) hg3
                  have HZ3 := Lib.hid hZ3
                  have HG3 := Lib.hid hgz3
                  clear hZ3 hg3 hgz3 k1 k2 q1 q2 hwv hwm hvi h4i hsl
                  go_wp2
                  go_roundw
                  case rel => exact ⟨i + 1, by omega, by go_num, by rw [hstep.h]; exact HZ3.out, HG3.out⟩
                  case measure => simp [intOf]; omega
                · obtain rfl : i = 16 := by omega
                  rw [show ((16 : Nat) : Int) = 16 from rfl]
                  rw [hstx.h] at hZ2
                  have hr := hZ2.rng
                  have h64 : (Tryd.prog.info? 117).map (·.size) = some (d.map B).length := by rw [List.length_map, hdl]; exact i64B
                  have hO8 := HO7.out.grown hgz (by simp; omega)
                  have hb8 := HB7.out.grown hgz HB7.out.size (fun k hk => by cases hk; omega)
                  have H64 := Lib.hid h64
                  have hi2 := Lib.hid (show (Tryd.prog.info? 117).map (·.size) = some (d.map B).toArray.size by rw [List.size_toArray]; exact h64)
                  have HB8 := Lib.hid hb8
                  clear hgz hZ2 h64 hb8 hstx
                  go_wp2_with (first
                    | (refine wpList_load_mid rfl _ _ rfl _ _ rfl (d.map B) _ hr Tryd.underlying117 rfl H64.out ?_)
                    | (refine L_storeAB rfl _ _ _ rfl rfl rfl hO8 i64B (by simp) hdl ?_; intro w9 hO9 hg9))
                  refine bodyPost_ret_by (results_cell_row rfl _ _ _ _ _ _ _ rfl hO9 Tryd.underlying117 rfl hi2.out) rfl ⟨rfl, ?_⟩
                  exact HB8.out.grown hg9 HB8.out.size (fun k hk => by cases hk; omega)
end Go.Proofs.YtlncnjcbgfeaoaaDoor

/- salt.Stream. -/
set_option maxRecDepth 100000
set_option linter.unusedVariables false
namespace Go.Proofs.YtlncnjcbgfeaoaaDoor
open Go.RowKit
/-- a block; so many of them -/
def blkS (key nonce : List UInt8) (n : Nat) : List UInt8 := outC (rounds (initC key nonce n) 10) (initC key nonce n) 16
def strS (key nonce : List UInt8) (fr : Nat) : Nat → List UInt8
  | 0 => []
  | k + 1 => strS key nonce fr k ++ blkS key nonce ((fr + k) % 4294967296)
theorem strS_len (key nonce : List UInt8) (fr k : Nat) : (strS key nonce fr k).length = 64 * k := by
  induction k with
  | zero => rfl
  | succ k ih => rw [strS, List.length_append, ih]; show 64 * k + (outC _ _ 16).length = _; rw [outC_len]; omega
/-- n bytes of the stream, out of the walk's sight -/
structure SM (key nonce : List UInt8) (fr N : Nat) (d : List UInt8) : Prop where
  h : (strS key nonce fr ((N + 63) / 64)).take N = d
  len : d.length = N
theorem SM_ex (key nonce : List UInt8) (fr N : Nat) : ∃ d, SM key nonce fr N d := ⟨_, rfl, by rw [List.length_take, strS_len]; omega⟩
def lenV : Value → Nat
  | .slice _ n _ => n
  | _ => 0
theorem AB.bl {w w' : World} {g n : Nat} {t : TypeId} {vs : List UInt8} (h : AB w g t vs) (hb : Below n w w') (hg : g < n) : AB w' g t vs := by
  unfold AB at h ⊢
  rw [hb.block g hg]; exact h
theorem AB.whole {w : World} {g n : Nat} {t : TypeId} {vs : List UInt8} (h : AB w g t vs) (hl : vs.length = n) (hm : n ≤ 140737488355328) : BS w (some ⟨g, 0, none⟩) n n vs := by
  have := h.from 0 (Nat.zero_le _) (by unfold maxLen; omega)
  rw [List.drop_zero, Nat.sub_zero, hl] at this
  exact this
theorem runB_take {W0 : World} {a : Option Addr} {n c : Nat} {xs : List UInt8} (hx : BS W0 a n c xs) (j : Nat) (hj : j ≤ n) : BS W0 a j c (xs.take j) := by
  have h := RS.head hx j hj
  rw [Nat.mul_one, ← List.map_take] at h; exact h
theorem row_le {a : Option Addr} {X C : Nat} (h : ∀ ad, a = some ad → X ≤ ad.block) (hC : C ≤ X) : ∀ k, a.map (·.block) = some k → C ≤ k := by
  intro k he
  obtain ⟨ad, h1, h2⟩ := Option.map_eq_some_iff.1 he
  have := h ad h1; omega
theorem btr {w w1 w2 : World} (h : Below w.heap.size w w1) (k : Below w1.heap.size w1 w2) : Below w.heap.size w w2 := h.trans (k.mono h.size)
end Go.Proofs.YtlncnjcbgfeaoaaDoor

/- Packets, in plain Lean: what the mask, the nonce, the unmasked packet are. -/
namespace Go.Proofs.YtlncnjcbgfeaoaaDoor
/-- the five bytes that a sample draws -/
def maskS (key s : List UInt8) : List UInt8 := (blkS key (s.drop 4) (le4 s)).take 5
structure MSK (key s m : List UInt8) : Prop where
  h : maskS key s = m
  len : m.length = 5
theorem maskS_len (key s : List UInt8) : (maskS key s).length = 5 := by
  unfold maskS; rw [List.length_take, show (blkS key (s.drop 4) (le4 s)).length = 64 from outC_len _ _ _]; rfl
theorem MSK_ex (key s : List UInt8) : ∃ m, MSK key s m := ⟨_, rfl, maskS_len _ _⟩
theorem MSK.of {key s d : List UInt8} (h : ST key (s.drop 4) (le4 s) d) : MSK key s (d.take 5) := ⟨by rw [← h.h]; rfl, by rw [List.length_take, h.len]; rfl⟩
/-- a nonce of a number: the last i bytes done -/
def nonJ (n : List UInt8) (pn : Nat) : Nat → List UInt8
  | 0 => n
  | i + 1 => (nonJ n pn i).set (11 - i) ((nonJ n pn i).getD (11 - i) 0 ^^^ UInt8.ofNat (pn / 256 ^ i))
structure NON (n : List UInt8) (pn : Nat) (d : List UInt8) : Prop where
  h : nonJ n pn 8 = d
  len : d.length = n.length
theorem nonJ_len (n : List UInt8) (pn i : Nat) : (nonJ n pn i).length = n.length := by
  induction i with
  | zero => rfl
  | succ i ih => rw [nonJ, List.length_set, ih]
theorem NON_ex (n : List UInt8) (pn : Nat) : ∃ d, NON n pn d := ⟨_, rfl, nonJ_len _ _ _⟩
/-- the number's bytes unmasked, i of them -/
def unJ (q m : List UInt8) (a : Nat) : Nat → List UInt8
  | 0 => q
  | i + 1 => (unJ q m a i).set (a + i) ((unJ q m a i).getD (a + i) 0 ^^^ m.getD (1 + i) 0)
theorem unJ_len (q m : List UInt8) (a i : Nat) : (unJ q m a i).length = q.length := by
  induction i with
  | zero => rfl
  | succ i ih => rw [unJ, List.length_set, ih]
theorem unJ_out (q m : List UInt8) (a i j : Nat) (h : j < a ∨ a + i ≤ j) : (unJ q m a i)[j]? = q[j]? := by
  induction i with
  | zero => rfl
  | succ i ih => rw [unJ, List.getElem?_set_ne (by omega), ih (by omega)]
theorem unJ_in (q m : List UInt8) (a i j : Nat) (hj : j < i) (hq : a + j < q.length) : (unJ q m a i)[a + j]? = some (q.getD (a + j) 0 ^^^ m.getD (1 + j) 0) := by
  induction i with
  | zero => omega
  | succ i ih =>
    rw [unJ]
    by_cases h : j = i
    · subst h
      rw [List.getElem?_set_self (by rw [unJ_len]; exact hq), List.getD_eq_getElem?_getD, unJ_out _ _ _ _ _ (by omega), ← List.getD_eq_getElem?_getD]
    · rw [List.getElem?_set_ne (by omega), ih (by omega)]
theorem unJ_twice (q m : List UInt8) (a i : Nat) (hq : a + i ≤ q.length) : unJ (unJ q m a i) m a i = q := by
  apply List.ext_getElem?
  intro j
  by_cases h : a ≤ j ∧ j < a + i
  · obtain ⟨k, rfl⟩ : ∃ k, j = a + k := ⟨j - a, by omega⟩
    rw [unJ_in _ _ _ _ _ (by omega) (by rw [unJ_len]; omega), List.getD_eq_getElem?_getD, unJ_in _ _ _ _ _ (by omega) (by omega), Option.getD_some, UInt8.xor_assoc, UInt8.xor_self, UInt8.xor_zero, List.getD_eq_getElem?_getD, List.getElem?_eq_getElem (by omega)]
    rfl
  · rw [unJ_out _ _ _ _ _ (by omega), unJ_out _ _ _ _ _ (by omega)]
/-- the first byte, masked or unmasked -/
def fstS (b m : UInt8) : UInt8 := b ^^^ UInt8.ofNat (m.toNat % if b.toNat < 128 then 32 else 16)
def unS (q m : List UInt8) (a : Nat) (k : Nat) : List UInt8 := unJ (q.set 0 (fstS (q.getD 0 0) (m.getD 0 0))) m a k
theorem and_15 (m : Nat) : m &&& 15 = m % 16 := Nat.and_two_pow_sub_one_eq_mod m 4
theorem and_31 (m : Nat) : m &&& 31 = m % 32 := Nat.and_two_pow_sub_one_eq_mod m 5
theorem fst_nat (b m : UInt8) : (fstS b m).toNat = b.toNat ^^^ (m.toNat % if b.toNat < 128 then 32 else 16) := by
  unfold fstS
  rw [UInt8.toNat_xor, UInt8.toNat_ofNat']
  congr 1
  have := m.toNat_lt
  split <;> omega
theorem nat_xor_lo : ∀ b, b < 128 → ∀ r, r < 32 → (b ^^^ r) < 128 ∧ (b ^^^ r) / 32 = b / 32 := by decide +kernel
theorem nat_xor_hi : ∀ b, b < 128 → ∀ r, r < 16 → 128 ≤ (128 + b ^^^ r) ∧ (128 + b ^^^ r) / 16 = (128 + b) / 16 := by decide +kernel
theorem nat_xor_lt (b : Nat) (hb : b < 256) (m : Nat) : ((b ^^^ (m % if b < 128 then 32 else 16)) < 128 ↔ b < 128) ∧
    (b ^^^ (m % if b < 128 then 32 else 16)) / 32 = b / 32 ∧ (128 ≤ b → (b ^^^ (m % if b < 128 then 32 else 16)) / 16 = b / 16) := by
  by_cases h : b < 128
  · rw [if_pos h]
    have h1 := nat_xor_lo b h (m % 32) (Nat.mod_lt _ (by decide))
    exact ⟨⟨fun _ => h, fun _ => h1.1⟩, h1.2, fun h2 => by omega⟩
  · rw [if_neg h]
    have h1 := nat_xor_hi (b - 128) (by omega) (m % 16) (Nat.mod_lt _ (by decide))
    rw [show 128 + (b - 128) = b by omega] at h1
    exact ⟨⟨fun h2 => by omega, fun h2 => by omega⟩, by omega, fun _ => h1.2⟩
theorem fst_lo (b m : UInt8) : (fstS b m).toNat < 128 ↔ b.toNat < 128 := by
  rw [fst_nat]; exact (nat_xor_lt b.toNat b.toNat_lt m.toNat).1
theorem fst_32 (b m : UInt8) : (fstS b m).toNat / 32 = b.toNat / 32 := by
  rw [fst_nat]; exact (nat_xor_lt b.toNat b.toNat_lt m.toNat).2.1
theorem fst_16 (b m : UInt8) (h : 128 ≤ b.toNat) : (fstS b m).toNat / 16 = b.toNat / 16 := by
  rw [fst_nat]; exact (nat_xor_lt b.toNat b.toNat_lt m.toNat).2.2 h
theorem fst_twice (b m : UInt8) : fstS (fstS b m) m = b := by
  have h := fst_lo b m
  unfold fstS at h ⊢
  by_cases hb : b.toNat < 128
  · simp only [hb, iff_true, if_true] at h ⊢
    rw [if_pos h, UInt8.xor_assoc, UInt8.xor_self, UInt8.xor_zero]
  · simp only [hb, iff_false, if_false] at h ⊢
    rw [if_neg h, UInt8.xor_assoc, UInt8.xor_self, UInt8.xor_zero]
end Go.Proofs.YtlncnjcbgfeaoaaDoor

/- salt.load: seventeen bytes as limbs. -/
set_option maxRecDepth 100000
set_option linter.unusedVariables false
namespace Go.Proofs.YtlncnjcbgfeaoaaDoor
open Go.RowKit
/-- bytes as a number, the lowest first -/
def numL : List UInt8 → Nat
  | [] => 0
  | x :: xs => x.toNat + 256 * numL xs
theorem numL_drop (xs : List UInt8) : ∀ j : Nat, numL xs / 256 ^ j = numL (xs.drop j) := by
  induction xs with
  | nil => intro j; simp [numL]
  | cons x xs ih =>
    intro j
    cases j with
    | zero => simp
    | succ j =>
      have := x.toNat_lt
      rw [List.drop_succ_cons, ← ih j, numL, Nat.pow_succ, Nat.mul_comm (256 ^ j) 256, ← Nat.div_div_eq_div_mul]
      congr 1; omega
theorem numL_bit (xs : List UInt8) (m : Nat) (y : UInt8) (h : xs[m / 8]? = some y) : numL xs / 2 ^ m % 2 = y.toNat / 2 ^ (m % 8) % 2 := by
  have hy := y.toNat_lt
  have e1 : numL xs / 2 ^ m = numL (xs.drop (m / 8)) / 2 ^ (m % 8) := by
    rw [← numL_drop, Nat.div_div_eq_div_mul]
    congr 1
    rw [show (256 : Nat) = 2 ^ 8 by rfl, ← Nat.pow_mul, ← Nat.pow_add]
    congr 1; omega
  obtain ⟨r, hr⟩ : ∃ r, xs.drop (m / 8) = y :: r := by
    obtain ⟨hlt, he⟩ := List.getElem?_eq_some_iff.1 h
    exact ⟨_, by rw [List.drop_eq_getElem_cons hlt, he]⟩
  rw [e1, hr, numL]
  have h8 : m % 8 < 8 := Nat.mod_lt _ (by decide)
  obtain ⟨e, he⟩ : ∃ e, m % 8 = e := ⟨_, rfl⟩
  rw [he] at h8 ⊢
  have hk : e = 0 ∨ e = 1 ∨ e = 2 ∨ e = 3 ∨ e = 4 ∨ e = 5 ∨ e = 6 ∨ e = 7 := by omega
  rcases hk with rfl | rfl | rfl | rfl | rfl | rfl | rfl | rfl <;> omega
/-- the limbs while they grow -/
def ldL (V i k : Nat) : List Nat := (List.range 5).map fun j => if j < i then V / 2 ^ (26 * j) % 2 ^ 26 else if j = i then V / 2 ^ (26 * i) % 2 ^ k else 0
theorem ldL_len (V i k : Nat) : (ldL V i k).length = 5 := by simp [ldL]
theorem ldL_get (V i k : Nat) (hi : i < 5) : (ldL V i k)[i]? = some (V / 2 ^ (26 * i) % 2 ^ k) := by
  unfold ldL; rw [List.getElem?_map, List.getElem?_range hi]; simp
theorem ldL_set (V i k : Nat) (hi : i < 5) : (ldL V i k).set i (V / 2 ^ (26 * i) % 2 ^ k + 2 ^ k * (V / 2 ^ (26 * i + k) % 2)) = ldL V i (k + 1) := by
  apply List.ext_getElem?
  intro j
  have hs : V / 2 ^ (26 * i) % 2 ^ (k + 1) = V / 2 ^ (26 * i) % 2 ^ k + 2 ^ k * (V / 2 ^ (26 * i + k) % 2) := by
    rw [Nat.pow_succ, Nat.mod_mul, Nat.pow_add, Nat.div_div_eq_div_mul]
  rcases Nat.lt_or_ge j 5 with hj | hj
  · by_cases h : j = i
    · subst h
      rw [List.getElem?_set_self (by rw [ldL_len]; omega), ldL_get _ _ _ hi, hs]
    · rw [List.getElem?_set_ne (fun h2 => h h2.symm)]
      unfold ldL
      rw [List.getElem?_map, List.getElem?_map, List.getElem?_range hj]
      simp [h]
  · rw [List.getElem?_eq_none (by rw [List.length_set, ldL_len]; omega), List.getElem?_eq_none (by rw [ldL_len]; omega)]
theorem ldL_next (V i : Nat) (hi : i < 5) : ldL V i 26 = ldL V (i + 1) 0 := by
  unfold ldL
  apply List.map_congr_left
  intro j _
  by_cases h1 : j < i
  · rw [if_pos h1, if_pos (by omega)]
  · by_cases h2 : j = i
    · subst h2; rw [if_neg h1, if_pos rfl, if_pos (by omega)]
    · rw [if_neg h1, if_neg h2, if_neg (by omega)]
      split
      · rw [Nat.pow_zero, Nat.mod_one]
      · rfl
theorem ldL_zero (V : Nat) : ldL V 0 0 = [0, 0, 0, 0, 0] := by
  unfold ldL
  simp [List.range_succ, Nat.mod_one]
theorem AL.al {w : World} {g : Nat} {t : TypeId} {vs : List Nat} (h : AL w g t vs) (o : Obj) : AL (w.alloc o) g t vs := h.grown (World.grownBy_alloc w o none) (by simp)
theorem AL.rng {w : World} {g : Nat} {t : TypeId} {vs : List Nat} (h : AL w g t vs) : w.rangeAt g 0 (vs.map UV) := fun j v hv => by
  rw [List.getElem?_map] at hv
  obtain ⟨x, hx, rfl⟩ := Option.map_eq_some_iff.1 hv
  rw [Nat.zero_add]; exact h.cell j x hx
theorem iL : (Tryd.prog.info? 147).map (·.size) = some 5 := by kernel_rfl
/-- limbs stored into an array of the call's own -/
theorem L_storeL {w : World} {ops : Array Oper} {rest : List Oper} {o : Oper} {f : Act} {Q : Exit → Act → World → Prop} (hgd : o.guard = none) (t : TypeId) (x y : Operand) (ho : o.op = .store t x y)
    {g n : Nat} {old : List Nat} (d : List Nat) (hx : f.eval x = .pointer (some ⟨g, 0, none⟩)) (hy : f.eval y = .agg (d.map UV).toArray) (hA : AL w g t old) (hi : (Tryd.prog.info? t).map (·.size) = some n) (hl : old.length = n) (hl2 : d.length = n)
    (h : ∀ w', AL w' g t d → w.grownBy w' (some g) → wpList Tryd.prog ops Q rest (f.put o.dst undef) w') : wpList Tryd.prog ops Q (o :: rest) f w := by
  refine wpList_store_row hgd t x y ho g _ hx hy t _ hA (by rw [List.size_toArray, List.length_map, hl2]; exact hi) (by simp [hl, hl2]) (by rw [Array.all_eq_true_iff_forall_mem]; intro v hv; obtain ⟨z, _, rfl⟩ := List.mem_map.1 (by simpa using hv : v ∈ d.map UV); rfl) ?_
  exact h _ (setRow_heap _ _ _ _ _ _ hA) (grownBy_setRow w g _)
theorem or_up (x b k : Nat) (hx : x < 2 ^ k) (hk : k ≤ 26) (hb : b < 2) : bits .or .u64 (x : Int) (((2 ^ k * b : Nat)) : Int) = ((x + 2 ^ k * b : Nat) : Int) := by
  have h26 : 2 ^ k ≤ 2 ^ 26 := Nat.pow_le_pow_right (by decide) hk
  have hb2 : 2 ^ k * b ≤ 2 ^ 26 := Nat.le_trans (Nat.mul_le_mul h26 (show b ≤ 1 by omega)) (by decide)
  rw [u64_or_nat _ _ (by omega) (by omega), Nat.or_comm, nat_join k _ _ (Nat.mul_mod_right _ _) hx, Nat.add_comm]
set_option maxHeartbeats 4000000 in
theorem load_any (w : World) {p : List UInt8} (hpl : p.length = 17) :
    Calls Tryd.prog 92 #[.agg (p.map B).toArray] w fun e w' => e = .returned (.agg ((ldL (numL p) 5 0).map UV).toArray) ∧ Below w.heap.size w w' := by
  have hz1 : (w.alloc (.cells (p.map B).toArray 145)).heap.size = w.heap.size + 1 := by simp
  have hz2 : ((w.alloc (.cells (p.map B).toArray 145)).alloc (.cells #[.int .u64 0, .int .u64 0, .int .u64 0, .int .u64 0, .int .u64 0] 147)).heap.size = w.heap.size + 1 + 1 := by simp
  have hA := ((AB_box w 145 p).al (.cells #[.int .u64 0, .int .u64 0, .int .u64 0, .int .u64 0, .int .u64 0] 147)).al (.cells #[.int .u64 0, .int .u64 0, .int .u64 0, .int .u64 0, .int .u64 0] 147)
  have hR := AL.al (show AL ((w.alloc (.cells (p.map B).toArray 145)).alloc (.cells #[.int .u64 0, .int .u64 0, .int .u64 0, .int .u64 0, .int .u64 0] 147)) _ 147 [0, 0, 0, 0, 0] from heap_alloc_new _ _) (.cells #[.int .u64 0, .int .u64 0, .int .u64 0, .int .u64 0, .int .u64 0] 147)
  have hO : AL (((w.alloc (.cells (p.map B).toArray 145)).alloc (.cells #[.int .u64 0, .int .u64 0, .int .u64 0, .int .u64 0, .int .u64 0] 147)).alloc (.cells #[.int .u64 0, .int .u64 0, .int .u64 0, .int .u64 0, .int .u64 0] 147)) _ 147 [0, 0, 0, 0, 0] := heap_alloc_new _ _
  have hb : Below w.heap.size w _ := ((below_alloc w (.cells (p.map B).toArray 145)).alloc (by simp) (.cells #[.int .u64 0, .int .u64 0, .int .u64 0, .int .u64 0, .int .u64 0] 147)).alloc (by simp; omega) (.cells #[.int .u64 0, .int .u64 0, .int .u64 0, .int .u64 0, .int .u64 0] 147)
  rw [hz1] at hR
  rw [hz2] at hO
  obtain ⟨V, hV⟩ : ∃ V, numL p = V := ⟨_, rfl⟩
  have hbit := fun m y h => numL_bit p m y h
  rw [← ldL_zero V] at hO
  rw [hV]
  simp only [hV] at hbit
  have Hbit := Lib.hid hbit
  have hlen := hpl
  clear hz1 hz2 hV hbit
  go_enter Tryd.func92, Tryd.ntmps92
  go_upto_region 2 with (fail)
  generalize (World.alloc _ _) = W1 at *
  have l0 := hA.lt
  have l2 := hO.lt
  have HA := Lib.hid hA
  have HR := Lib.hid hR
  have HB := Lib.hid hb
  clear hA hR hb
  go_wp2
  go_loopw [7] (fun s7 wr => ∃ i : Nat, i ≤ 5 ∧ s7 = .int .i64 (i : Int) ∧ AL wr (w.heap.size + 1 + 1) 147 (ldL V i 0) ∧ W1.grownBy wr (some (w.heap.size + 1 + 1))) (fun s7 _ => 5 - (intOf s7).toNat)
  case atStart => exact ⟨0, by omega, rfl, hO, World.grownBy.refl W1 _⟩
  case round =>
    obtain ⟨i, hi, rfl, hX, hg⟩ := hrel
    clear hO
    by_cases hlt : i < 5
    · have HX := Lib.hid hX
      have HG := Lib.hid hg
      clear hX hg
      go_wp2
      rw [show decide ((i : Int) < 5) = true from decide_eq_true (by omega)]
      go_loopw [10] (fun s10 wr => ∃ k : Nat, k ≤ 26 ∧ s10 = .int .i64 (k : Int) ∧ AL wr (w.heap.size + 1 + 1) 147 (ldL V i k) ∧ W1.grownBy wr (some (w.heap.size + 1 + 1))) (fun s10 _ => 26 - (intOf s10).toNat)
      case atStart => exact ⟨0, by omega, rfl, HX.out, HG.out⟩
      case round =>
        obtain ⟨k, hk, rfl, hQ, hgq⟩ := hrel
        by_cases hlt26 : k < 26
        · obtain ⟨m, hm⟩ : ∃ m, 26 * i + k = m := ⟨_, rfl⟩
          have hm136 : m < 136 := by omega
          have hmi : 26 * (i : Int) + (k : Int) = (m : Int) := by omega
          obtain ⟨y, hy⟩ : ∃ y, p[m / 8]? = some y := ⟨_, List.getElem?_eq_getElem (by omega)⟩
          have hbt := Hbit.out m y hy
          obtain ⟨x, hx⟩ : ∃ x, V / 2 ^ (26 * i) % 2 ^ k = x := ⟨_, rfl⟩
          have hxl : x < 2 ^ k := by rw [← hx]; exact Nat.mod_lt _ (Nat.two_pow_pos k)
          have hget := ldL_get V i k hlt
          have hset := ldL_set V i k hlt
          rw [hm, hbt, hx] at hset
          rw [hx] at hget
          obtain ⟨b, hbe⟩ : ∃ b, y.toNat / 2 ^ (m % 8) % 2 = b := ⟨_, rfl⟩
          rw [hbe] at hset
          have hb2 : b < 2 := by omega
          have hor := or_up x b k hxl (by omega) hb2
          have q0 := hQ.cell i x hget
          have f0 := hQ.fr i
          have hAr := HA.out.grown hgq (by simp; omega)
          obtain ⟨j8, hj8⟩ : ∃ j8, m / 8 = j8 := ⟨_, rfl⟩
          have q1 : wr.cell? ⟨w.heap.size, m / 8, none⟩ = some (.int .u8 (y.toNat : Int)) := hAr.cell (m / 8) y hy
          rw [hj8] at q1
          obtain ⟨e8, he8⟩ : ∃ e8, m % 8 = e8 := ⟨_, rfl⟩
          rw [he8] at hbe
          have hj17 : j8 < 17 := by omega
          have he88 : e8 < 8 := by omega
          have d8 : (m : Int) / 8 = (j8 : Int) := by omega
          have r8 : (m : Int) % 8 = (e8 : Int) := by omega
          have hyl := y.toNat_lt
          have hand : bits .and .u8 ((y.toNat : Int) / 2 ^ e8) 1 = (b : Int) := by
            have hlt8 : y.toNat / 2 ^ e8 < 256 := Nat.lt_of_le_of_lt (Nat.div_le_self _ _) hyl
            have h := u8_and_nat (y.toNat / 2 ^ e8) 1 hlt8 (by decide)
            rw [Nat.and_one_is_mod, hbe] at h
            rw [show ((y.toNat : Int) / 2 ^ e8) = ((y.toNat / 2 ^ e8 : Nat) : Int) by simp]
            exact h
          obtain ⟨sv, hsv⟩ : ∃ sv, 2 ^ k * b = sv := ⟨_, rfl⟩
          obtain ⟨nv, hnv⟩ : ∃ nv, x + sv = nv := ⟨_, rfl⟩
          rw [hsv] at hor hset
          rw [hnv] at hor hset
          have hp26 : 2 ^ k ≤ 2 ^ 26 := Nat.pow_le_pow_right (by decide) (by omega)
          have hsv26 : sv ≤ 67108864 := by rw [← hsv]; exact Nat.le_trans (Nat.mul_le_mul hp26 (show b ≤ 1 by omega)) (by decide)
          have hshl : (b : Int) * 2 ^ k = (sv : Int) := by rw [← hsv]; simp [Int.mul_comm]
          have hwr : IntKind.u64.wrap (sv : Int) = (sv : Int) := IntWalk.u64_in _ (by omega)
          have hq2 := (hQ.set_ i nv)
          rw [hset] at hq2
          have HQ2 := Lib.hid hq2.drew
          have HG2 := Lib.hid (grown_drew (grown_set hgq i (.int .u64 (nv : Int))))
          clear hm hy hbt hx hget hset hbe hAr hj8 he8 hsv hnv hq2 hQ hgq
          go_upto_region 10 with (fail)
          go_region
          clear hor hand hshl hwr d8 r8 q0 q1 f0 hmi hxl
          generalize World.drew _ = W9 at *
          go_wp2
          go_roundw
          case rel => exact ⟨k + 1, by omega, by go_num, HQ2.out, HG2.out⟩
          case measure => simp [intOf]; omega
        · obtain rfl : k = 26 := by omega
          rw [show ((26 : Nat) : Int) = 26 from rfl]
          rw [ldL_next V i hlt] at hQ
          have HQ := Lib.hid hQ
          have HGq := Lib.hid hgq
          clear hQ hgq HX HG
          go_wp2
          go_roundw
          case rel => exact ⟨i + 1, by omega, by go_num, HQ.out, HGq.out⟩
          case measure => simp [intOf]; omega
    · obtain rfl : i = 5 := by omega
      rw [show ((5 : Nat) : Int) = 5 from rfl]
      obtain ⟨T, hT⟩ : ∃ T, ldL V 5 0 = T := ⟨_, rfl⟩
      have hTl : T.length = 5 := by rw [← hT]; exact ldL_len _ _ _
      rw [hT] at hX
      have HT : EN (ldL V 5 0) T := ⟨hT⟩
      have hr := hX.rng
      have hR5 := HR.out.grown hg (by simp)
      have hT5 : (Tryd.prog.info? 147).map (·.size) = some (T.map UV).length := by rw [List.length_map, hTl]; exact iL
      have H5 := Lib.hid hT5
      have hi2 := Lib.hid (show (Tryd.prog.info? 147).map (·.size) = some (T.map UV).toArray.size by rw [List.size_toArray]; exact hT5)
      have hb8 := HB.out.grown hg HB.out.size (fun k hk => by cases hk; omega)
      have HB8 := Lib.hid hb8
      clear hT hX hg hT5 hb8
      go_wp2_with (first
        | (refine wpList_load_mid rfl _ _ rfl _ _ rfl (T.map UV) _ hr Tryd.underlying147 rfl H5.out ?_)
        | (refine L_storeL rfl _ _ _ rfl T rfl rfl hR5 iL (by simp) hTl ?_; intro w9 hO9 hg9))
      refine bodyPost_ret_by (results_cell_row rfl _ _ _ _ _ _ _ rfl hO9 Tryd.underlying147 rfl hi2.out) rfl ⟨by rw [HT.h], ?_⟩
      exact HB8.out.grown hg9 HB8.out.size (fun k hk => by cases hk; omega)
end Go.Proofs.YtlncnjcbgfeaoaaDoor

/- salt.limbs.times. -/
set_option maxRecDepth 100000
set_option linter.unusedVariables false
namespace Go.Proofs.YtlncnjcbgfeaoaaDoor
open Go.RowKit
/-- one product added; a row of them; rows of them -/
def tstep (h r out : List Nat) (i k : Nat) : List Nat :=
  let x := h.getD i 0 * r.getD k 0
  if i + k < 5 then out.set (i + k) (out.getD (i + k) 0 + x) else out.set (i + k - 5) (out.getD (i + k - 5) 0 + 5 * x)
def trow (h r out : List Nat) (i : Nat) : Nat → List Nat
  | 0 => out
  | k + 1 => tstep h r (trow h r out i k) i k
def tmul (h r : List Nat) : Nat → List Nat
  | 0 => [0, 0, 0, 0, 0]
  | i + 1 => trow h r (tmul h r i) i 5
/-- limbs of a product while they grow: so many steps -/
structure LT (out : List Nat) (s : Nat) : Prop where
  len : out.length = 5
  le : ∀ x ∈ out, x ≤ 22518008874272000 * s
theorem LT.get {h : List Nat} {k : Nat} (H : LT h k) (i : Nat) (hi : i < 5) : ∃ x, h[i]? = some x ∧ x ≤ 22518008874272000 * k := by
  have hl := H.len
  exact ⟨h[i]'(by omega), List.getElem?_eq_getElem _, H.le _ (List.getElem_mem _)⟩
/-- factors -/
structure LF (h : List Nat) : Prop where
  len : h.length = 5
  le : ∀ x ∈ h, x ≤ 67108880
theorem LF.get {h : List Nat} (H : LF h) (i : Nat) (hi : i < 5) : ∃ x, h[i]? = some x ∧ x ≤ 67108880 := by
  have hl := H.len
  exact ⟨h[i]'(by omega), List.getElem?_eq_getElem _, H.le _ (List.getElem_mem _)⟩
theorem tstep_lo {h r out : List Nat} {i k a b c : Nat} (hik : i + k < 5) (ea : h[i]? = some a) (eb : r[k]? = some b) (ec : out[i + k]? = some c) : tstep h r out i k = out.set (i + k) (c + a * b) := by
  unfold tstep; simp only [List.getD_eq_getElem?_getD, ea, eb, ec, Option.getD_some]; rw [if_pos hik]
theorem tstep_hi {h r out : List Nat} {i k a b c : Nat} (hik : 5 ≤ i + k) (ea : h[i]? = some a) (eb : r[k]? = some b) (ec : out[i + k - 5]? = some c) : tstep h r out i k = out.set (i + k - 5) (c + 5 * (a * b)) := by
  unfold tstep; simp only [List.getD_eq_getElem?_getD, ea, eb, ec, Option.getD_some]; rw [if_neg (by omega)]
theorem mul_le26 {a b : Nat} (ha : a ≤ 67108880) (hb : b ≤ 67108880) : a * b ≤ 4503601774854400 := Nat.mul_le_mul ha hb
theorem LT.step {h r out : List Nat} {s : Nat} (H : LT out s) (Hh : LF h) (Hr : LF r) (i k : Nat) (hi : i < 5) (hk : k < 5) : LT (tstep h r out i k) (s + 1) := by
  obtain ⟨a, ea, la⟩ := Hh.get i hi
  obtain ⟨b, eb, lb⟩ := Hr.get k hk
  have hm := mul_le26 la lb
  rcases Nat.lt_or_ge (i + k) 5 with h5 | h5
  · obtain ⟨c, ec, lc⟩ := H.get (i + k) h5
    rw [tstep_lo h5 ea eb ec]
    refine ⟨by rw [List.length_set, H.len], fun x hx => ?_⟩
    rcases List.mem_or_eq_of_mem_set hx with hx | rfl
    · have := H.le x hx; omega
    · omega
  · obtain ⟨c, ec, lc⟩ := H.get (i + k - 5) (by omega)
    rw [tstep_hi h5 ea eb ec]
    refine ⟨by rw [List.length_set, H.len], fun x hx => ?_⟩
    rcases List.mem_or_eq_of_mem_set hx with hx | rfl
    · have := H.le x hx; omega
    · omega
theorem LT.row {h r out : List Nat} {s : Nat} (H : LT out s) (Hh : LF h) (Hr : LF r) (i : Nat) (hi : i < 5) (k : Nat) (hk : k ≤ 5) : LT (trow h r out i k) (s + k) := by
  induction k with
  | zero => exact H
  | succ k ih => exact (ih (by omega)).step Hh Hr i k hi (by omega)
theorem LT.mul {h r : List Nat} (Hh : LF h) (Hr : LF r) (i : Nat) (hi : i ≤ 5) : LT (tmul h r i) (5 * i) := by
  induction i with
  | zero => exact ⟨rfl, fun x hx => by simp [tmul] at hx; omega⟩
  | succ i ih => exact (ih (by omega)).row Hh Hr i (by omega) 5 (by omega)
theorem LT.room {out : List Nat} (H : LT out 25) : LM out 0 := ⟨H.len, fun x hx => by have := H.le x hx; omega⟩
theorem AL_box (w : World) (t : TypeId) (xs : List Nat) : AL (w.alloc (.cells (xs.map UV).toArray t)) w.heap.size t xs := heap_alloc_new w _
set_option maxHeartbeats 4000000 in
theorem times_any (w : World) {h r : List Nat} (Hh : LF h) (Hr : LF r) :
    Calls Tryd.prog 94 #[.agg (h.map UV).toArray, .agg (r.map UV).toArray] w fun e w' => e = .returned (.agg ((cars (tmul h r 5) 2).map UV).toArray) ∧ Below w.heap.size w w' := by
  have hz1 : (w.alloc (.cells (h.map UV).toArray 147)).heap.size = w.heap.size + 1 := by simp
  have hz2 : ((w.alloc (.cells (h.map UV).toArray 147)).alloc (.cells (r.map UV).toArray 147)).heap.size = w.heap.size + 1 + 1 := by simp
  have hz3 : (((w.alloc (.cells (h.map UV).toArray 147)).alloc (.cells (r.map UV).toArray 147)).alloc (.cells #[.int .u64 0, .int .u64 0, .int .u64 0, .int .u64 0, .int .u64 0] 147)).heap.size = w.heap.size + 1 + 1 + 1 := by simp
  have hA := (((AL_box w 147 h).al (.cells (r.map UV).toArray 147)).al (.cells #[.int .u64 0, .int .u64 0, .int .u64 0, .int .u64 0, .int .u64 0] 147)).al (.cells #[.int .u64 0, .int .u64 0, .int .u64 0, .int .u64 0, .int .u64 0] 147)
  have hC := ((AL_box (w.alloc (.cells (h.map UV).toArray 147)) 147 r).al (.cells #[.int .u64 0, .int .u64 0, .int .u64 0, .int .u64 0, .int .u64 0] 147)).al (.cells #[.int .u64 0, .int .u64 0, .int .u64 0, .int .u64 0, .int .u64 0] 147)
  have hR := AL.al (show AL (((w.alloc (.cells (h.map UV).toArray 147)).alloc (.cells (r.map UV).toArray 147)).alloc (.cells #[.int .u64 0, .int .u64 0, .int .u64 0, .int .u64 0, .int .u64 0] 147)) _ 147 [0, 0, 0, 0, 0] from heap_alloc_new _ _) (.cells #[.int .u64 0, .int .u64 0, .int .u64 0, .int .u64 0, .int .u64 0] 147)
  have hO : AL ((((w.alloc (.cells (h.map UV).toArray 147)).alloc (.cells (r.map UV).toArray 147)).alloc (.cells #[.int .u64 0, .int .u64 0, .int .u64 0, .int .u64 0, .int .u64 0] 147)).alloc (.cells #[.int .u64 0, .int .u64 0, .int .u64 0, .int .u64 0, .int .u64 0] 147)) _ 147 (tmul h r 0) := heap_alloc_new _ _
  have hb : Below w.heap.size w _ := (((below_alloc w (.cells (h.map UV).toArray 147)).alloc (by simp) (.cells (r.map UV).toArray 147)).alloc (by simp; omega) (.cells #[.int .u64 0, .int .u64 0, .int .u64 0, .int .u64 0, .int .u64 0] 147)).alloc (by simp; omega) (.cells #[.int .u64 0, .int .u64 0, .int .u64 0, .int .u64 0, .int .u64 0] 147)
  rw [hz1] at hC
  rw [hz2] at hR
  rw [hz3] at hO
  clear hz1 hz2 hz3
  go_enter Tryd.func94, Tryd.ntmps94
  go_upto_region 2 with (fail)
  generalize (World.alloc _ _) = W1 at *
  obtain ⟨g5, hg5⟩ : ∃ g5, w.heap.size + 1 + 1 + 1 = g5 := ⟨_, rfl⟩
  rw [hg5] at hO ⊢
  have l5 := hO.lt
  have HA := Lib.hid hA
  have HC := Lib.hid hC
  have HR := Lib.hid hR
  have HB := Lib.hid hb
  clear hA hC hR hb
  go_wp2
  go_loopw [9] (fun s9 wr => ∃ i : Nat, i ≤ 5 ∧ s9 = .int .i64 (i : Int) ∧ AL wr g5 147 (tmul h r i) ∧ W1.grownBy wr (some g5)) (fun s9 _ => 5 - (intOf s9).toNat)
  case atStart => exact ⟨0, by omega, rfl, hO, World.grownBy.refl W1 _⟩
  case round =>
    obtain ⟨i, hi, rfl, hX, hg⟩ := hrel
    clear hO
    by_cases hlt : i < 5
    · have hlt0 := LT.mul Hh Hr i hi
      obtain ⟨X, hXe⟩ : ∃ X, tmul h r i = X := ⟨_, rfl⟩
      rw [hXe] at hX hlt0
      have HNX : EN (tmul h r (i + 1)) (trow h r X i 5) := ⟨by rw [← hXe]; rfl⟩
      have HX := Lib.hid hX
      have HG := Lib.hid hg
      have HL := Lib.hid hlt0
      clear hXe hX hg hlt0
      go_wp2
      rw [show decide ((i : Int) < 5) = true from decide_eq_true (by omega)]
      go_loopw [12] (fun s12 wr => ∃ k : Nat, k ≤ 5 ∧ s12 = .int .i64 (k : Int) ∧ AL wr g5 147 (trow h r X i k) ∧ W1.grownBy wr (some g5)) (fun s12 _ => 5 - (intOf s12).toNat)
      case atStart => exact ⟨0, by omega, rfl, HX.out, HG.out⟩
      case round =>
        obtain ⟨k, hk, rfl, hQ, hgq⟩ := hrel
        by_cases hlt5 : k < 5
        · have hL := LT.row HL.out Hh Hr i hlt k hk
          obtain ⟨Y, hY⟩ : ∃ Y, trow h r X i k = Y := ⟨_, rfl⟩
          have hstep : EN (trow h r X i (k + 1)) (tstep h r Y i k) := ⟨by rw [← hY]; rfl⟩
          rw [hY] at hQ hL
          obtain ⟨a, ea, la⟩ := Hh.get i hlt
          obtain ⟨b, eb, lb⟩ := Hr.get k hlt5
          have hm := mul_le26 la lb
          have q1 := (HA.out.grown hgq (by simp; omega)).cell i a ea
          have q2 := (HC.out.grown hgq (by simp; omega)).cell k b eb
          obtain ⟨v, hv⟩ : ∃ v, a * b = v := ⟨_, rfl⟩
          have hvi : (a : Int) * (b : Int) = (v : Int) := by rw [← hv]; simp
          rw [hv] at hm
          have hwr : IntKind.u64.wrap (v : Int) = (v : Int) := IntWalk.u64_in _ (by omega)
          rcases Nat.lt_or_ge (i + k) 5 with h5 | h5
          · obtain ⟨c, ec, lc⟩ := hL.get (i + k) h5
            have hst := tstep_lo h5 ea eb ec
            rw [hv] at hst
            obtain ⟨m, hme⟩ : ∃ m, i + k = m := ⟨_, rfl⟩
            rw [hme] at hst ec h5
            have hmi : (i : Int) + (k : Int) = (m : Int) := by omega
            have q3 := hQ.drew.cell m c ec
            have f3 := hQ.drew.fr m
            have hv2 : ((c + v : Nat) : Int) = (c : Int) + (v : Int) := by omega
            have hq2 := hQ.drew.set_ m (c + v)
            have hg2 := grown_set (grown_drew hgq) m (.int .u64 ((c + v : Nat) : Int))
            rw [← hst, ← hstep.h, hv2] at hq2
            rw [hv2] at hg2
            have HQ2 := Lib.hid hq2
            have HG2 := Lib.hid hg2
            clear hst hq2 hg2 hv2 hY hQ hgq ea eb ec hv hme
            go_upto_region 8 with (fail)
            go_region
            clear q1 q2 hvi hwr
            generalize World.drew _ = W8 at *
            go_wp2
            go_roundw
            case rel => exact ⟨k + 1, by omega, by go_num, HQ2.out, HG2.out⟩
            case measure => simp [intOf]; omega
          · obtain ⟨c, ec, lc⟩ := hL.get (i + k - 5) (by omega)
            have hst := tstep_hi h5 ea eb ec
            rw [hv] at hst
            obtain ⟨m, hme⟩ : ∃ m, i + k - 5 = m := ⟨_, rfl⟩
            rw [hme] at hst ec
            have hm5 : m < 5 := by omega
            have hmi : (i : Int) + (k : Int) = (m : Int) + 5 := by omega
            have q3 := hQ.drew.cell m c ec
            have f3 := hQ.drew.fr m
            have hv2 : ((c + 5 * v : Nat) : Int) = (c : Int) + 5 * (v : Int) := by omega
            have hq2 := hQ.drew.set_ m (c + 5 * v)
            have hg2 := grown_set (grown_drew hgq) m (.int .u64 ((c + 5 * v : Nat) : Int))
            rw [← hst, ← hstep.h, hv2] at hq2
            rw [hv2] at hg2
            have HQ2 := Lib.hid hq2
            have HG2 := Lib.hid hg2
            clear hst hq2 hg2 hv2 hY hQ hgq ea eb ec hv hme
            go_upto_region 8 with (fail)
            go_region
            clear q1 q2 hvi hwr
            generalize World.drew _ = W8 at *
            go_wp2
            go_roundw
            case rel => exact ⟨k + 1, by omega, by go_num, HQ2.out, HG2.out⟩
            case measure => simp [intOf]; omega
        · obtain rfl : k = 5 := by omega
          rw [show ((5 : Nat) : Int) = 5 from rfl]
          obtain ⟨T, hT⟩ : ∃ T, trow h r X i 5 = T := ⟨_, rfl⟩
          rw [hT] at hQ
          have HT : EN (tmul h r (i + 1)) T := ⟨by rw [HNX.h]; exact hT⟩
          have HQ := Lib.hid hQ
          have HGq := Lib.hid hgq
          clear hT hQ hgq HX HG
          go_wp2
          go_roundw
          case rel => exact ⟨i + 1, by omega, by go_num, by rw [HT.h]; exact HQ.out, HGq.out⟩
          case measure => simp [intOf]; omega
    · obtain rfl : i = 5 := by omega
      rw [show ((5 : Nat) : Int) = 5 from rfl]
      have hroom := (LT.mul Hh Hr 5 (Nat.le_refl _)).room
      obtain ⟨T, hT⟩ : ∃ T, tmul h r 5 = T := ⟨_, rfl⟩
      rw [hT] at hX hroom
      have hcl := (hroom.cars 2 (by omega)).len
      obtain ⟨R, hRe⟩ : ∃ R, cars T 2 = R := ⟨_, rfl⟩
      have HTR : EN (cars (tmul h r 5) 2) R := ⟨by rw [hT]; exact hRe⟩
      rw [hRe] at hcl
      have hcar := carry_any wr hX hroom
      rw [hRe] at hcar
      have Hcar := Lib.hid hcar
      have hT5 : (Tryd.prog.info? 147).map (·.size) = some (R.map UV).length := by rw [List.length_map, hcl]; exact iL
      have H5 := Lib.hid hT5
      have hi2 := Lib.hid (show (Tryd.prog.info? 147).map (·.size) = some (R.map UV).toArray.size by rw [List.size_toArray]; exact hT5)
      have HG := Lib.hid hg
      have hgs := hg.size
      clear hT hX hroom hRe hcar hT5 hg
      go_upto_region 15 with (go_at_call 93; refine Hcar.out.mono ?_; rintro e w' ⟨rfl, hR2, hgr2⟩)
      have hr := hR2.rng
      have hG2 := grown_trans HG.out hgr2
      have hR5 := HR.out.grown hG2 (by simp; omega)
      have hb8 := HB.out.grown hG2 HB.out.size (fun k hk => by cases hk; omega)
      have HB8 := Lib.hid hb8
      clear hR2 hgr2 hG2 hb8 Hcar
      go_wp2_with (first
        | (refine wpList_load_mid rfl _ _ rfl _ _ rfl (R.map UV) _ hr Tryd.underlying147 rfl H5.out ?_)
        | (refine L_storeL rfl _ _ _ rfl R rfl rfl hR5 iL (by simp) hcl ?_; intro w9 hO9 hg9))
      refine bodyPost_ret_by (results_cell_row rfl _ _ _ _ _ _ _ rfl hO9 Tryd.underlying147 rfl hi2.out) rfl ⟨by rw [HTR.h], ?_⟩
      exact HB8.out.grown hg9 HB8.out.size (fun k hk => by cases hk; omega)
end Go.Proofs.YtlncnjcbgfeaoaaDoor

/- salt.limbs.least. -/
set_option maxRecDepth 100000
set_option linter.unusedVariables false
namespace Go.Proofs.YtlncnjcbgfeaoaaDoor
open Go.RowKit
/-- a carry from a limb to the next, upwards -/
def gstep (g : List Nat) (i : Nat) : List Nat := (g.set (i + 1) (g.getD (i + 1) 0 + g.getD i 0 / 67108864)).set i (g.getD i 0 % 67108864)
def gup (g : List Nat) : Nat → List Nat
  | 0 => g
  | i + 1 => gstep (gup g i) i
/-- what is left, modulo 2^130 - 5 -/
def leastS (h1 : List Nat) : List Nat :=
  let g := gup (h1.set 0 (h1.getD 0 0 + 5)) 4
  if g.getD 4 0 / 67108864 = 0 then h1 else g.set 4 (g.getD 4 0 % 67108864)
theorem gstep_eq {g : List Nat} {i a b : Nat} (ea : g[i]? = some a) (eb : g[i + 1]? = some b) : gstep g i = (g.set (i + 1) (b + a / 67108864)).set i (a % 67108864) := by
  unfold gstep; simp only [List.getD_eq_getElem?_getD, ea, eb, Option.getD_some]
theorem LM.gstep {h : List Nat} {k : Nat} (H : LM h k) (hk : k ≤ 100) (i : Nat) (hi : i < 4) : LM (gstep h i) (k + 1) := by
  obtain ⟨a, ea, la⟩ := H.get i (by omega)
  obtain ⟨b, eb, lb⟩ := H.get (i + 1) (by omega)
  rw [gstep_eq ea eb]
  refine ⟨by rw [List.length_set, List.length_set, H.len], fun x hx => ?_⟩
  rcases List.mem_or_eq_of_mem_set hx with hx | rfl
  · rcases List.mem_or_eq_of_mem_set hx with hx | rfl
    · have := H.le x hx; omega
    · omega
  · omega
theorem LM.gup {h : List Nat} {k : Nat} (H : LM h k) (hk : k + 4 ≤ 100) (i : Nat) (hi : i ≤ 4) : LM (gup h i) (k + i) := by
  induction i with
  | zero => exact H
  | succ i ih => exact (ih (by omega)).gstep (by omega) i (by omega)
set_option maxHeartbeats 4000000 in
theorem least_any (w : World) {h : List Nat} (Hh : LM h 0) :
    Calls Tryd.prog 95 #[.agg (h.map UV).toArray] w fun e w' => e = .returned (.agg ((leastS (cars h 2)).map UV).toArray) ∧ Below w.heap.size w w' := by
  have hz1 : (w.alloc (.cells (h.map UV).toArray 147)).heap.size = w.heap.size + 1 := by simp
  have hA := (AL_box w 147 h).al (.cells #[.int .u64 0, .int .u64 0, .int .u64 0, .int .u64 0, .int .u64 0] 147)
  have hR : AL ((w.alloc (.cells (h.map UV).toArray 147)).alloc (.cells #[.int .u64 0, .int .u64 0, .int .u64 0, .int .u64 0, .int .u64 0] 147)) _ 147 [0, 0, 0, 0, 0] := heap_alloc_new _ _
  have hb : Below w.heap.size w _ := (below_alloc w (.cells (h.map UV).toArray 147)).alloc (by simp) (.cells #[.int .u64 0, .int .u64 0, .int .u64 0, .int .u64 0, .int .u64 0] 147)
  rw [hz1] at hR
  have hm := Hh.cars 2 (by omega)
  obtain ⟨X, hX⟩ : ∃ X, cars h 2 = X := ⟨_, rfl⟩
  have HX := EN.mk hX
  rw [hX] at hm ⊢
  obtain ⟨R, hRe⟩ : ∃ R, leastS X = R := ⟨_, rfl⟩
  have HRe := EN.mk hRe
  rw [hRe]
  have hXl := hm.len
  have HM := Lib.hid hm
  have HH := Lib.hid Hh
  clear hz1 hX hRe hm Hh
  go_enter Tryd.func95, Tryd.ntmps95
  go_upto_region 1 with (fail)
  generalize (World.alloc _ _) = W1 at *
  have l0 := hA.lt
  have l1 := hR.lt
  have hcar := carry_any W1 hA HH.out
  rw [HX.h] at hcar
  have Hcar := Lib.hid hcar
  have hX5 : (Tryd.prog.info? 147).map (·.size) = some (X.map UV).length := by rw [List.length_map, hXl]; exact iL
  have H5 := Lib.hid hX5
  have HR := Lib.hid hR
  have HB := Lib.hid hb
  clear hcar hA hR hb hX5
  go_upto_region 2 with (go_at_call 93; refine Hcar.out.mono ?_; rintro e w2 ⟨rfl, hX2, hg2⟩)
  have hr2 := hX2.rng
  have hR2 := HR.out.grown hg2 (by simp)
  have hb2 := HB.out.grown hg2 HB.out.size (fun k hk => by cases hk; exact Nat.le_refl _)
  have z2 := hg2.size
  clear Hcar
  go_upto_region 3 with (first
    | (refine wpList_load_mid rfl _ _ rfl _ _ rfl (X.map UV) _ hr2 Tryd.underlying147 rfl H5.out ?_)
    | (refine L_storeL rfl _ _ _ rfl X rfl rfl (show AL (w2.alloc _) w2.heap.size 147 [0, 0, 0, 0, 0] from heap_alloc_new w2 _) iL (by simp) hXl ?_; intro w3 hG3 hg3))
  have hX3 := (hX2.al _).grown hg3 (by simp; omega)
  have hR3 := (hR2.al _).grown hg3 (by simp; omega)
  have hb3 := (hb2.alloc hb2.size _).grown hg3 (by simp; have := hb2.size; omega) (fun k hk => by cases hk; exact hb2.size)
  obtain ⟨g3, hg3e⟩ : ∃ g3, w2.heap.size = g3 := ⟨_, rfl⟩
  rw [hg3e] at hG3 ⊢
  have lg3 : w.heap.size + 1 < g3 := by omega
  obtain ⟨x0, e0, le0⟩ := HM.out.get 0 (by omega)
  have q0 := hG3.cell 0 x0 e0
  have f0 := hG3.fr 0
  have hv0 : ((x0 + 5 : Nat) : Int) = (x0 : Int) + 5 := by omega
  have hG4 := hG3.set_ 0 (x0 + 5)
  have hg4 := grownBy_setCell w3 ⟨g3, 0, none⟩ (.int .u64 ((x0 + 5 : Nat) : Int))
  have HX3 := Lib.hid hX3
  have HR3 := Lib.hid hR3
  have HB3 := Lib.hid hb3
  have hse : X.set 0 (X.getD 0 0 + 5) = X.set 0 (x0 + 5) := by rw [List.getD_eq_getElem?_getD, e0]; rfl
  have hm0 : LM (X.set 0 (x0 + 5)) 11 := by
    refine ⟨by rw [List.length_set, hXl], fun y hy => ?_⟩
    rcases List.mem_or_eq_of_mem_set hy with hy | rfl
    · have := HM.out.le y hy; omega
    · omega
  obtain ⟨Y, hY⟩ : ∃ Y, X.set 0 (x0 + 5) = Y := ⟨_, rfl⟩
  rw [hY] at hG4 hm0
  have HY := EN.mk (hse.trans hY)
  rw [hv0] at hG4 hg4
  have HG4 := Lib.hid hG4
  have Hg4 := Lib.hid hg4
  have HM0 := Lib.hid hm0
  clear hX2 hg2 hr2 hR2 hb2 hg3 hX3 hR3 hb3 hG3 e0 hv0 hG4 hg4 hse hY hm0 hg3e
  go_upto_region 4 with (fail)
  clear q0 f0
  generalize World.setCell _ _ _ = w4 at *
  go_wp2
  go_loopw [11] (fun s11 wr => ∃ i : Nat, i ≤ 4 ∧ s11 = .int .i64 (i : Int) ∧ AL wr g3 147 (gup Y i) ∧ w3.grownBy wr (some g3)) (fun s11 _ => 4 - (intOf s11).toNat)
  case atStart => exact ⟨0, by omega, rfl, HG4.out, Hg4.out⟩
  case round =>
    obtain ⟨i, hi, rfl, hQ, hgq⟩ := hrel
    by_cases hlt : i < 4
    · have hmi := HM0.out.gup (by omega) i hi
      obtain ⟨T, hT⟩ : ∃ T, gup Y i = T := ⟨_, rfl⟩
      have hstep : EN (gup Y (i + 1)) (gstep T i) := ⟨by rw [← hT]; rfl⟩
      rw [hT] at hQ hmi
      obtain ⟨a, ea, la⟩ := hmi.get i (by omega)
      obtain ⟨b, eb, lb⟩ := hmi.get (i + 1) (by omega)
      have hg := gstep_eq ea eb
      have q0 := hQ.cell i a ea
      have q1 := hQ.cell (i + 1) b eb
      have f1 := hQ.fr (i + 1)
      have ea' : (T.set (i + 1) (b + a / 67108864))[i]? = some a := by rw [List.getElem?_set_ne (by omega)]; exact ea
      have hv : ((b + a / 67108864 : Nat) : Int) = (b : Int) + (a : Int) / 67108864 := by omega
      have hq1 := hQ.set_ (i + 1) (b + a / 67108864)
      have hgq1 := grown_set hgq (i + 1) (.int .u64 ((b + a / 67108864 : Nat) : Int))
      rw [hv] at hq1 hgq1
      have HQ1 := Lib.hid hq1.drew
      have HG1 := Lib.hid (grown_drew hgq1)
      have Hg := EN.mk hg
      have Hea := EN.mk (rfl : T = T)
      have q2 := HQ1.out.cell i a ea'
      have f2 := HQ1.out.fr i
      have hlow := u64_low26 a (by omega)
      clear hT hQ hgq hg ea eb ea' hv hq1 hgq1 hmi Hea
      go_upto_region 7 with (fail)
      go_region
      clear q0 q1 f1
      generalize World.drew _ = W9 at *
      have hv2 : ((a % 67108864 : Nat) : Int) = (a : Int) % 67108864 := by omega
      have hq2 := HQ1.out.set_ i (a % 67108864)
      have hg2 := grown_set HG1.out i (.int .u64 ((a % 67108864 : Nat) : Int))
      rw [← Hg.h, ← hstep.h, hv2] at hq2
      rw [hv2] at hg2
      have HQ2 := Lib.hid hq2
      have HG2 := Lib.hid hg2
      clear hq2 hg2 hv2 HQ1 HG1
      go_wp2
      go_roundw
      case rel => exact ⟨i + 1, by omega, by go_num, HQ2.out, HG2.out⟩
      case measure => simp [intOf]; omega
    · obtain rfl : i = 4 := by omega
      rw [show ((4 : Nat) : Int) = 4 from rfl]
      have hm4 := HM0.out.gup (by omega) 4 (Nat.le_refl _)
      obtain ⟨T, hT⟩ : ∃ T, gup Y 4 = T := ⟨_, rfl⟩
      rw [hT] at hQ hm4
      obtain ⟨a, ea, la⟩ := hm4.get 4 (by omega)
      have q4 := hQ.cell 4 a ea
      have f4 := hQ.fr 4
      have hlow := u64_low26 a (by omega)
      have hX4 := HX3.out.grown hgq (by simp; omega)
      have hR4 := HR3.out.grown hgq (by simp; omega)
      have hb4 := HB3.out.grown hgq HB3.out.size (fun k hk => by cases hk; omega)
      have hle : leastS X = if a / 67108864 = 0 then X else T.set 4 (a % 67108864) := by
        show (if (gup (X.set 0 (X.getD 0 0 + 5)) 4).getD 4 0 / 67108864 = 0 then X else (gup (X.set 0 (X.getD 0 0 + 5)) 4).set 4 ((gup (X.set 0 (X.getD 0 0 + 5)) 4).getD 4 0 % 67108864)) = _
        rw [HY.h, hT, List.getD_eq_getElem?_getD, ea]; rfl
      rw [HRe.h] at hle
      have hTl := hm4.len
      by_cases hz : a / 67108864 = 0
      · rw [if_pos hz] at hle
        have hRX : R = X := hle
        have hzi : (a : Int) / 67108864 = 0 := by omega
        have hr4 := hX4.rng
        have HB4 := Lib.hid hb4
        have hi2 := Lib.hid (show (Tryd.prog.info? 147).map (·.size) = some (X.map UV).toArray.size by rw [List.size_toArray]; exact H5.out)
        have HRX := EN.mk hRX
        clear hT hm4 ea hQ hgq hX4 hb4 hle hz hRX f4 hlow HG4 Hg4
        go_wp2_with (first
          | (refine wpList_load_mid rfl _ _ rfl _ _ rfl (X.map UV) _ hr4 Tryd.underlying147 rfl H5.out ?_)
          | (refine L_storeL rfl _ _ _ rfl X rfl rfl hR4 iL (by simp) hXl ?_; intro w9 hO9 hg9))
        refine bodyPost_ret_by (results_cell_row rfl _ _ _ _ _ _ _ rfl hO9 Tryd.underlying147 rfl hi2.out) rfl ⟨by rw [HRX.h], ?_⟩
        exact HB4.out.grown hg9 HB4.out.size (fun k hk => by cases hk; omega)
      · rw [if_neg hz] at hle
        have hzi : ¬ ((a : Int) / 67108864 = 0) := by omega
        have hv2 : ((a % 67108864 : Nat) : Int) = (a : Int) % 67108864 := by omega
        have hq2 := hQ.set_ 4 (a % 67108864)
        have hg2 := grownBy_setCell wr ⟨g3, 4, none⟩ (.int .u64 ((a % 67108864 : Nat) : Int))
        rw [← hle, hv2] at hq2
        rw [hv2] at hg2
        have hRl : R.length = 5 := by rw [hle, List.length_set, hTl]
        have hR5 : (Tryd.prog.info? 147).map (·.size) = some (R.map UV).length := by rw [List.length_map, hRl]; exact iL
        have HR5 := Lib.hid hR5
        have hi2 := Lib.hid (show (Tryd.prog.info? 147).map (·.size) = some (R.map UV).toArray.size by rw [List.size_toArray]; exact hR5)
        have hr5 := hq2.rng
        have hR6 := hR4.grown hg2 (by simp; omega)
        have HB6 := Lib.hid (hb4.grown hg2 hb4.size (fun k hk => by cases hk; show w.heap.size ≤ g3; omega))
        clear hT hm4 ea hgq hX4 hR4 hb4 hle hz hR5 hv2 hq2 hg2 hQ HG4 Hg4
        go_upto_region 13 with (fail)
        clear q4 f4 hlow
        generalize World.setCell _ _ _ = w7 at *
        go_wp2_with (first
          | (refine wpList_load_mid rfl _ _ rfl _ _ rfl (R.map UV) _ hr5 Tryd.underlying147 rfl HR5.out ?_)
          | (refine L_storeL rfl _ _ _ rfl R rfl rfl hR6 iL (by simp) hRl ?_; intro w9 hO9 hg9))
        refine bodyPost_ret_by (results_cell_row rfl _ _ _ _ _ _ _ rfl hO9 Tryd.underlying147 rfl hi2.out) rfl ⟨rfl, ?_⟩
        exact HB6.out.grown hg9 HB6.out.size (fun k hk => by cases hk; omega)
end Go.Proofs.YtlncnjcbgfeaoaaDoor

/- limbs' values: plain laws; the tag as plain functions. -/
set_option maxRecDepth 100000
set_option linter.unusedVariables false
namespace Go.Proofs.YtlncnjcbgfeaoaaDoor
def pP : Nat := 1361129467683753853853498429727072845819
def valL : List Nat → Nat
  | [] => 0
  | x :: xs => x + 67108864 * valL xs
theorem five {h : List Nat} (hl : h.length = 5) : ∃ a b c d e, h = [a, b, c, d, e] := by
  match h, hl with
  | [a, b, c, d, e], _ => exact ⟨a, b, c, d, e, rfl⟩
/-- limbs as a carry leaves them -/
structure NF (h : List Nat) : Prop where
  h : ∃ a b c d e, h = [a, b, c, d, e] ∧ a < 67108869 ∧ b < 67108864 ∧ c < 67108864 ∧ d < 67108864 ∧ e < 67108864
theorem cpass_eq (a b c d e : Nat) : ∃ b' c' d' e' : Nat, b' = b + a / 67108864 ∧ c' = c + b' / 67108864 ∧ d' = d + c' / 67108864 ∧ e' = e + d' / 67108864 ∧
    cpass [a, b, c, d, e] 5 = [a % 67108864 + 5 * (e' / 67108864), b' % 67108864, c' % 67108864, d' % 67108864, e' % 67108864] :=
  ⟨_, _, _, _, rfl, rfl, rfl, rfl, rfl⟩
theorem cpass_val (a b c d e : Nat) : ∃ q, valL [a, b, c, d, e] = valL (cpass [a, b, c, d, e] 5) + q * pP := by
  obtain ⟨b', c', d', e', hb, hc, hd, he, hp⟩ := cpass_eq a b c d e
  refine ⟨e' / 67108864, ?_⟩
  rw [hp]
  simp only [valL, pP]
  omega
theorem cars_val {h : List Nat} (hl : h.length = 5) : ∃ q, valL h = valL (cars h 2) + q * pP := by
  obtain ⟨a, b, c, d, e, rfl⟩ := five hl
  obtain ⟨q1, h1⟩ := cpass_val a b c d e
  obtain ⟨b', c', d', e', _, _, _, _, hp⟩ := cpass_eq a b c d e
  show ∃ q, _ = valL (cpass (cpass [a, b, c, d, e] 5) 5) + q * pP
  rw [hp] at h1 ⊢
  obtain ⟨q2, h2⟩ := cpass_val (a % 67108864 + 5 * (e' / 67108864)) (b' % 67108864) (c' % 67108864) (d' % 67108864) (e' % 67108864)
  exact ⟨q1 + q2, by rw [h1, h2, Nat.add_mul]; omega⟩
theorem cars_nf {h : List Nat} (H : LM h 0) : NF (cars h 2) := by
  obtain ⟨a, b, c, d, e, rfl⟩ := five H.len
  have la := H.le a (by simp)
  have lb := H.le b (by simp)
  have lc := H.le c (by simp)
  have ld := H.le d (by simp)
  have le := H.le e (by simp)
  clear H
  obtain ⟨b', c', d', e', hb, hc, hd, he, hp⟩ := cpass_eq a b c d e
  show NF (cpass (cpass [a, b, c, d, e] 5) 5)
  rw [hp]
  clear hp
  have lq : e' / 67108864 ≤ 18179869184 := by omega
  generalize e' / 67108864 = q at *
  have l0 : a % 67108864 + 5 * q ≤ 90966454784 := by omega
  generalize a % 67108864 + 5 * q = a1 at *
  have l1 : b' % 67108864 < 67108864 := Nat.mod_lt _ (by decide)
  have l2 : c' % 67108864 < 67108864 := Nat.mod_lt _ (by decide)
  have l3 : d' % 67108864 < 67108864 := Nat.mod_lt _ (by decide)
  have l4 : e' % 67108864 < 67108864 := Nat.mod_lt _ (by decide)
  generalize b' % 67108864 = b1 at *
  generalize c' % 67108864 = c1 at *
  generalize d' % 67108864 = d1 at *
  generalize e' % 67108864 = e1 at *
  clear hb hc hd he la lb lc ld le
  obtain ⟨b2, c2, d2, e2, hb, hc, hd, he, hp⟩ := cpass_eq a1 b1 c1 d1 e1
  rw [hp]
  have m2 : b2 / 67108864 ≤ 1 := by omega
  have m3 : c2 / 67108864 ≤ 1 := by omega
  have m4 : d2 / 67108864 ≤ 1 := by omega
  have m5 : e2 / 67108864 ≤ 1 := by omega
  refine ⟨_, _, _, _, _, rfl, ?_, Nat.mod_lt _ (by decide), Nat.mod_lt _ (by decide), Nat.mod_lt _ (by decide), Nat.mod_lt _ (by decide)⟩
  omega
theorem NF.lf {h : List Nat} (H : NF h) : LF h := by
  obtain ⟨a, b, c, d, e, rfl, ha, hb, hc, hd, he⟩ := H.h
  refine ⟨rfl, fun x hx => ?_⟩
  simp only [List.mem_cons, List.not_mem_nil, or_false] at hx
  omega
/-- limbs that are wholly carried -/
structure NN (h : List Nat) : Prop where
  h : ∃ a b c d e, h = [a, b, c, d, e] ∧ a < 67108864 ∧ b < 67108864 ∧ c < 67108864 ∧ d < 67108864 ∧ e < 67108864
theorem cpass_nn (a b c d e : Nat) (ha : a < 67108869) (hb : b < 67108864) (hc : c < 67108864) (hd : d < 67108864) (he : e < 67108864) : NN (cpass [a, b, c, d, e] 5) := by
  obtain ⟨b', c', d', e', kb, kc, kd, ke, hp⟩ := cpass_eq a b c d e
  rw [hp]
  have m2 : b' / 67108864 ≤ 1 := by omega
  have m3 : c' / 67108864 ≤ 1 := by omega
  have m4 : d' / 67108864 ≤ 1 := by omega
  have m5 : e' / 67108864 ≤ 1 := by omega
  refine ⟨_, _, _, _, _, rfl, ?_, Nat.mod_lt _ (by decide), Nat.mod_lt _ (by decide), Nat.mod_lt _ (by decide), Nat.mod_lt _ (by decide)⟩
  by_cases h0 : e' / 67108864 = 0
  · rw [h0]; have := Nat.mod_lt a (show 67108864 > 0 by decide); omega
  · have h1 : e' / 67108864 = 1 := by omega
    have h2 : d' / 67108864 = 1 := by omega
    have h3 : c' / 67108864 = 1 := by omega
    have h4 : b' / 67108864 = 1 := by omega
    have h5 : a / 67108864 = 1 := by omega
    omega
theorem NN.nf {h : List Nat} (H : NN h) : NF h := by
  obtain ⟨a, b, c, d, e, rfl, ha, hb, hc, hd, he⟩ := H.h
  exact ⟨a, b, c, d, e, rfl, by omega, hb, hc, hd, he⟩
theorem cars_nn {h : List Nat} (H : NF h) : NN (cars h 2) := by
  obtain ⟨a, b, c, d, e, rfl, ha, hb, hc, hd, he⟩ := H.h
  show NN (cpass (cpass [a, b, c, d, e] 5) 5)
  obtain ⟨a1, b1, c1, d1, e1, h1, ka, kb, kc, kd, ke⟩ := (cpass_nn a b c d e ha hb hc hd he).h
  rw [h1]
  exact cpass_nn a1 b1 c1 d1 e1 (by omega) kb kc kd ke
theorem gup_eq (a b c d e : Nat) : ∃ b' c' d' e' : Nat, b' = b + (a + 5) / 67108864 ∧ c' = c + b' / 67108864 ∧ d' = d + c' / 67108864 ∧ e' = e + d' / 67108864 ∧
    gup (([a, b, c, d, e] : List Nat).set 0 (([a, b, c, d, e] : List Nat).getD 0 0 + 5)) 4 = [(a + 5) % 67108864, b' % 67108864, c' % 67108864, d' % 67108864, e'] :=
  ⟨_, _, _, _, rfl, rfl, rfl, rfl, rfl⟩
theorem leastS_val {h : List Nat} (H : NN h) : NN (leastS h) ∧ valL (leastS h) = valL h % pP := by
  obtain ⟨a, b, c, d, e, rfl, ha, hb, hc, hd, he⟩ := H.h
  obtain ⟨b', c', d', e', kb, kc, kd, ke, hp⟩ := gup_eq a b c d e
  have hu : leastS [a, b, c, d, e] = if e' / 67108864 = 0 then [a, b, c, d, e] else [(a + 5) % 67108864, b' % 67108864, c' % 67108864, d' % 67108864, e' % 67108864] := by
    unfold leastS
    rw [hp]; rfl
  rw [hu]
  have hv : valL [a, b, c, d, e] + 5 = valL [(a + 5) % 67108864, b' % 67108864, c' % 67108864, d' % 67108864, e' % 67108864] + e' / 67108864 * 1361129467683753853853498429727072845824 := by
    simp only [valL]; omega
  have hw : valL [a, b, c, d, e] < 1361129467683753853853498429727072845824 := by simp only [valL]; omega
  have hx : valL [(a + 5) % 67108864, b' % 67108864, c' % 67108864, d' % 67108864, e' % 67108864] < 1361129467683753853853498429727072845824 := by simp only [valL]; omega
  have hq : e' / 67108864 ≤ 1 := by omega
  by_cases h0 : e' / 67108864 = 0
  · rw [if_pos h0]
    refine ⟨H, ?_⟩
    rw [h0] at hv
    rw [Nat.mod_eq_of_lt]
    unfold pP; omega
  · rw [if_neg h0]
    have h1 : e' / 67108864 = 1 := by omega
    refine ⟨⟨_, _, _, _, _, rfl, Nat.mod_lt _ (by decide), Nat.mod_lt _ (by decide), Nat.mod_lt _ (by decide), Nat.mod_lt _ (by decide), Nat.mod_lt _ (by decide)⟩, ?_⟩
    rw [h1] at hv
    generalize valL [(a + 5) % 67108864, b' % 67108864, c' % 67108864, d' % 67108864, e' % 67108864] = g at *
    generalize valL [a, b, c, d, e] = v at *
    unfold pP; omega
theorem tmul_eq (a0 a1 a2 a3 a4 b0 b1 b2 b3 b4 : Nat) : tmul [a0, a1, a2, a3, a4] [b0, b1, b2, b3, b4] 5 =
    [0 + a0*b0 + 5*(a1*b4) + 5*(a2*b3) + 5*(a3*b2) + 5*(a4*b1), 0 + a0*b1 + a1*b0 + 5*(a2*b4) + 5*(a3*b3) + 5*(a4*b2), 0 + a0*b2 + a1*b1 + a2*b0 + 5*(a3*b4) + 5*(a4*b3), 0 + a0*b3 + a1*b2 + a2*b1 + a3*b0 + 5*(a4*b4), 0 + a0*b4 + a1*b3 + a2*b2 + a3*b1 + a4*b0] := by
  simp [tmul, trow, tstep]
theorem tmul_val {h r : List Nat} (hl : h.length = 5) (rl : r.length = 5) : ∃ q, valL h * valL r = valL (tmul h r 5) + q * pP := by
  obtain ⟨a0, a1, a2, a3, a4, rfl⟩ := five hl
  obtain ⟨b0, b1, b2, b3, b4, rfl⟩ := five rl
  rw [tmul_eq]
  refine ⟨(a1*b4+a2*b3+a3*b2+a4*b1) + 67108864 * ((a2*b4+a3*b3+a4*b2) + 67108864 * ((a3*b4+a4*b3) + 67108864*(a4*b4))), ?_⟩
  simp only [valL, pP]
  grind
theorem ldL_lf (V : Nat) : LF (ldL V 5 0) := by
  refine ⟨ldL_len _ _ _, fun x hx => ?_⟩
  unfold ldL at hx
  obtain ⟨j, hj, rfl⟩ := List.mem_map.1 hx
  have hj5 := List.mem_range.1 hj
  rw [if_pos hj5]
  have := Nat.mod_lt (V / 2 ^ (26 * j)) (show 2 ^ 26 > 0 by decide)
  omega
theorem ldL_val (V : Nat) (hV : V < 1361129467683753853853498429727072845824) : valL (ldL V 5 0) = V := by
  have e : ldL V 5 0 = [V / 2 ^ (26 * 0) % 2 ^ 26, V / 2 ^ (26 * 1) % 2 ^ 26, V / 2 ^ (26 * 2) % 2 ^ 26, V / 2 ^ (26 * 3) % 2 ^ 26, V / 2 ^ (26 * 4) % 2 ^ 26] := by simp [ldL, List.range_succ]
  rw [e]
  simp only [valL]
  omega
theorem mod_bit (x e : Nat) (he : e < 26) : x % 67108864 / 2 ^ e % 2 = x / 2 ^ e % 2 := by
  have h := Nat.testBit_mod_two_pow x 26 e
  rw [decide_eq_true he, Bool.true_and, Nat.testBit_eq_decide_div_mod_eq, Nat.testBit_eq_decide_div_mod_eq, show (2 : Nat) ^ 26 = 67108864 by rfl] at h
  have h2 := decide_eq_decide.1 h
  have h3 := Nat.mod_lt (x % 67108864 / 2 ^ e) (show 2 > 0 by decide)
  have h4 := Nat.mod_lt (x / 2 ^ e) (show 2 > 0 by decide)
  omega
theorem NN.limb {h : List Nat} (H : NN h) (j : Nat) (hj : j < 5) : h[j]? = some (valL h / 2 ^ (26 * j) % 67108864) := by
  obtain ⟨a, b, c, d, e, rfl, ha, hb, hc, hd, he⟩ := H.h
  simp only [valL]
  have hk : j = 0 ∨ j = 1 ∨ j = 2 ∨ j = 3 ∨ j = 4 := by omega
  rcases hk with rfl | rfl | rfl | rfl | rfl <;> simp <;> omega
theorem NN.bit {h : List Nat} (H : NN h) (m : Nat) (hm : m < 130) : ∃ x, h[m / 26]? = some x ∧ x < 67108864 ∧ x / 2 ^ (m % 26) % 2 = valL h / 2 ^ m % 2 := by
  refine ⟨_, H.limb (m / 26) (by omega), Nat.mod_lt _ (by decide), ?_⟩
  rw [mod_bit _ _ (Nat.mod_lt _ (by decide)), Nat.div_div_eq_div_mul, ← Nat.pow_add]
  congr 3; omega
/-- a part of at most sixteen bytes, a one behind it, filled -/
def blk17 (p : List UInt8) : List UInt8 := p.take 16 ++ [1] ++ List.replicate (16 - (p.take 16).length) 0
theorem blk17_len (p : List UInt8) : (blk17 p).length = 17 := by
  unfold blk17; simp only [List.length_append, List.length_take, List.length_singleton, List.length_replicate]; omega
/-- limbs added, so many of them -/
def addL (h x : List Nat) (i : Nat) : List Nat := (List.range 5).map fun j => if j < i then h.getD j 0 + x.getD j 0 else h.getD j 0
theorem addL_len (h x : List Nat) (i : Nat) : (addL h x i).length = 5 := by simp [addL]
theorem addL_zero {h : List Nat} (hl : h.length = 5) (x : List Nat) : addL h x 0 = h := by
  obtain ⟨a, b, c, d, e, rfl⟩ := five hl
  simp [addL, List.range_succ]
theorem addL_get (h x : List Nat) (i : Nat) (hi : i < 5) (a : Nat) (ea : h[i]? = some a) : (addL h x i)[i]? = some a := by
  unfold addL; rw [List.getElem?_map, List.getElem?_range hi]; simp [ea]
theorem addL_set (h x : List Nat) (i : Nat) (hi : i < 5) (a b : Nat) (ea : h[i]? = some a) (eb : x[i]? = some b) : (addL h x i).set i (a + b) = addL h x (i + 1) := by
  apply List.ext_getElem?
  intro j
  rcases Nat.lt_or_ge j 5 with hj | hj
  · by_cases h1 : j = i
    · subst h1
      rw [List.getElem?_set_self (by rw [addL_len]; omega)]
      unfold addL
      rw [List.getElem?_map, List.getElem?_range hj]; simp [ea, eb]
    · rw [List.getElem?_set_ne (fun h2 => h1 h2.symm)]
      unfold addL
      rw [List.getElem?_map, List.getElem?_map, List.getElem?_range hj]
      simp only [Option.map_some, Option.some.injEq]
      by_cases h2 : j < i
      · rw [if_pos h2, if_pos (by omega)]
      · rw [if_neg h2, if_neg (by omega)]
  · rw [List.getElem?_eq_none (by rw [List.length_set, addL_len]; omega), List.getElem?_eq_none (by rw [addL_len]; omega)]
theorem addL_lm {h x : List Nat} (Hh : LF h) (Hx : LF x) : LM (addL h x 5) 0 := by
  refine ⟨addL_len _ _ _, fun y hy => ?_⟩
  unfold addL at hy
  obtain ⟨j, hj, rfl⟩ := List.mem_map.1 hy
  have hj5 := List.mem_range.1 hj
  obtain ⟨a, ea, la⟩ := Hh.get j hj5
  obtain ⟨b, eb, lb⟩ := Hx.get j hj5
  simp only [List.getD_eq_getElem?_getD, ea, eb, Option.getD_some]
  rw [if_pos hj5]; omega
theorem addL_val {h x : List Nat} (hl : h.length = 5) (xl : x.length = 5) : valL (addL h x 5) = valL h + valL x := by
  obtain ⟨a0, a1, a2, a3, a4, rfl⟩ := five hl
  obtain ⟨b0, b1, b2, b3, b4, rfl⟩ := five xl
  simp [addL, List.range_succ, valL]
  omega
/-- one part -/
def hstep (k h : List Nat) (p : List UInt8) : List Nat := cars (tmul (cars (addL h (ldL (numL (blk17 p)) 5 0) 5) 2) k 5) 2
def hrun (k : List Nat) (p : List UInt8) : Nat → List Nat
  | 0 => [0, 0, 0, 0, 0]
  | n + 1 => hstep k (hrun k p n) (p.drop (16 * n))
theorem hstep_nf {k h : List Nat} (Hk : LF k) (Hh : LF h) (p : List UInt8) : NF (hstep k h p) :=
  cars_nf (LT.mul (cars_nf (addL_lm Hh (ldL_lf _))).lf Hk 5 (Nat.le_refl _)).room
theorem hrun_nf {k : List Nat} (Hk : LF k) (p : List UInt8) (n : Nat) : NF (hrun k p n) := by
  induction n with
  | zero => exact ⟨0, 0, 0, 0, 0, rfl, by decide, by decide, by decide, by decide, by decide⟩
  | succ n ih => exact hstep_nf Hk ih.lf _
theorem LF.lm {h : List Nat} (H : LF h) : LM h 0 := ⟨H.len, fun x hx => by have := H.le x hx; omega⟩
/-- the key's first half while it is cut -/
def clA (key : List UInt8) (a b : Nat) : List UInt8 := (List.range 17).map fun i =>
  if i = 16 then 0 else if i % 4 = 3 ∧ i < a then UInt8.ofNat ((key.getD i 0).toNat % 16) else if i % 4 = 0 ∧ 0 < i ∧ i < b then UInt8.ofNat ((key.getD i 0).toNat - (key.getD i 0).toNat % 4) else key.getD i 0
theorem clA_len (key : List UInt8) (a b : Nat) : (clA key a b).length = 17 := by simp [clA]
theorem clA_get (key : List UInt8) (a b i : Nat) (hi : i < 17) : (clA key a b)[i]? = some (if i = 16 then 0 else if i % 4 = 3 ∧ i < a then UInt8.ofNat ((key.getD i 0).toNat % 16) else if i % 4 = 0 ∧ 0 < i ∧ i < b then UInt8.ofNat ((key.getD i 0).toNat - (key.getD i 0).toNat % 4) else key.getD i 0) := by
  unfold clA; rw [List.getElem?_map, List.getElem?_range hi]; rfl
theorem clA_zero (key : List UInt8) (hk : key.length = 32) : clA key 3 4 = key.take 16 ++ [0] := by
  apply List.ext_getElem?
  intro i
  rcases Nat.lt_or_ge i 17 with hi | hi
  · rw [clA_get key 3 4 i hi]
    by_cases h : i = 16
    · subst h
      rw [if_pos rfl, List.getElem?_append_right (by simp [hk]), List.length_take, hk]; rfl
    · rw [if_neg h, if_neg (by omega), if_neg (by omega), List.getElem?_append_left (by rw [List.length_take, hk]; omega), List.getElem?_take, if_pos (by omega), List.getD_eq_getElem?_getD, List.getElem?_eq_getElem (by omega)]; rfl
  · rw [List.getElem?_eq_none (by rw [clA_len]; omega), List.getElem?_eq_none (by simp [hk]; omega)]
theorem clA_next (key : List UInt8) (a b i : Nat) (x : UInt8) (a' b' : Nat) (hi : i < 16) (h1 : (clA key a' b')[i]? = some x) (h2 : ∀ j, j < 16 → j ≠ i → (clA key a' b')[j]? = (clA key a b)[j]?) : (clA key a b).set i x = clA key a' b' := by
  apply List.ext_getElem?
  intro j
  rcases Nat.lt_or_ge j 17 with hj | hj
  · by_cases h : j = i
    · subst h; rw [List.getElem?_set_self (by rw [clA_len]; omega), h1]
    · rw [List.getElem?_set_ne (fun e => h e.symm)]
      by_cases h16 : j = 16
      · subst h16; rw [clA_get _ _ _ _ hj, clA_get _ _ _ _ hj, if_pos rfl, if_pos rfl]
      · rw [h2 j (by omega) h]
  · rw [List.getElem?_eq_none (by rw [List.length_set, clA_len]; omega), List.getElem?_eq_none (by rw [clA_len]; omega)]
theorem clA_a (key : List UInt8) (a b : Nat) (ha : a < 16) (h3 : a % 4 = 3) : (clA key a b)[a]? = some (key.getD a 0) ∧ (clA key a b).set a (UInt8.ofNat ((key.getD a 0).toNat % 16)) = clA key (a + 4) b := by
  constructor
  · rw [clA_get _ _ _ _ (by omega), if_neg (by omega), if_neg (by omega), if_neg (by omega)]
  · refine clA_next key a b a _ (a + 4) b ha ?_ fun j hj hne => ?_
    · rw [clA_get _ _ _ _ (by omega), if_neg (by omega), if_pos (by omega)]
    · rw [clA_get _ _ _ _ (by omega), clA_get _ _ _ _ (by omega)]
      simp only [if_neg (show ¬ j = 16 by omega)]
      by_cases h : j % 4 = 3 ∧ j < a
      · have h2 : j % 4 = 3 ∧ j < a + 4 := by omega
        simp only [if_pos h, if_pos h2]
      · have h2 : ¬ (j % 4 = 3 ∧ j < a + 4) := by omega
        simp only [if_neg h, if_neg h2]
theorem clA_b (key : List UInt8) (a b : Nat) (hb : b < 16) (hb0 : 0 < b) (h0 : b % 4 = 0) : (clA key a b)[b]? = some (key.getD b 0) ∧ (clA key a b).set b (UInt8.ofNat ((key.getD b 0).toNat - (key.getD b 0).toNat % 4)) = clA key a (b + 4) := by
  constructor
  · rw [clA_get _ _ _ _ (by omega), if_neg (by omega), if_neg (by omega), if_neg (by omega)]
  · refine clA_next key a b b _ a (b + 4) hb ?_ fun j hj hne => ?_
    · rw [clA_get _ _ _ _ (by omega), if_neg (by omega), if_neg (by omega), if_pos (by omega)]
    · rw [clA_get _ _ _ _ (by omega), clA_get _ _ _ _ (by omega)]
      simp only [if_neg (show ¬ j = 16 by omega)]
      by_cases h3 : j % 4 = 3 ∧ j < a
      · simp only [if_pos h3]
      · simp only [if_neg h3]
        by_cases h : j % 4 = 0 ∧ 0 < j ∧ j < b
        · have h2 : j % 4 = 0 ∧ 0 < j ∧ j < b + 4 := by omega
          simp only [if_pos h, if_pos h2]
        · have h2 : ¬ (j % 4 = 0 ∧ 0 < j ∧ j < b + 4) := by omega
          simp only [if_neg h, if_neg h2]
def tagK (key : List UInt8) : List Nat := ldL (numL (clA key 19 16)) 5 0
/-- what is carried into a byte of the tag; the bytes, so many of them -/
def tcar (V : Nat) (ks : List UInt8) : Nat → Nat
  | 0 => 0
  | i + 1 => (tcar V ks i + V / 2 ^ (8 * i) % 256 + (ks.getD i 0).toNat) / 256
theorem tcar_le (V : Nat) (ks : List UInt8) (i : Nat) : tcar V ks i ≤ 1 := by
  induction i with
  | zero => exact Nat.zero_le _
  | succ i ih => rw [tcar]; have := (ks.getD i 0).toNat_lt; have := Nat.mod_lt (V / 2 ^ (8 * i)) (show 256 > 0 by decide); omega
def tout (V : Nat) (ks : List UInt8) (i : Nat) : List UInt8 := (List.range 16).map fun j => if j < i then UInt8.ofNat (tcar V ks j + V / 2 ^ (8 * j) % 256 + (ks.getD j 0).toNat) else 0
theorem tout_len (V : Nat) (ks : List UInt8) (i : Nat) : (tout V ks i).length = 16 := by simp [tout]
theorem tout_zero (V : Nat) (ks : List UInt8) : tout V ks 0 = List.replicate 16 0 := by simp [tout, List.range_succ]
theorem tout_set (V : Nat) (ks : List UInt8) (i : Nat) (hi : i < 16) : (tout V ks i).set i (UInt8.ofNat (tcar V ks i + V / 2 ^ (8 * i) % 256 + (ks.getD i 0).toNat)) = tout V ks (i + 1) := by
  apply List.ext_getElem?
  intro j
  rcases Nat.lt_or_ge j 16 with hj | hj
  · by_cases h1 : j = i
    · subst h1
      rw [List.getElem?_set_self (by rw [tout_len]; omega)]
      unfold tout
      rw [List.getElem?_map, List.getElem?_range hj]; simp
    · rw [List.getElem?_set_ne (fun h2 => h1 h2.symm)]
      unfold tout
      rw [List.getElem?_map, List.getElem?_map, List.getElem?_range hj]
      simp only [Option.map_some, Option.some.injEq]
      by_cases h2 : j < i
      · rw [if_pos h2, if_pos (by omega)]
      · rw [if_neg h2, if_neg (by omega)]
  · rw [List.getElem?_eq_none (by rw [List.length_set, tout_len]; omega), List.getElem?_eq_none (by rw [tout_len]; omega)]
def tagS (key p : List UInt8) : List UInt8 := tout (valL (leastS (cars (hrun (tagK key) p ((p.length + 15) / 16)) 2))) (key.drop 16) 16
/-- the tag, out of the walk's sight -/
structure TG (key p d : List UInt8) : Prop where
  h : tagS key p = d
  len : d.length = 16
theorem TG_ex (key p : List UInt8) : ∃ d, TG key p d := ⟨_, rfl, tout_len _ _ _⟩
end Go.Proofs.YtlncnjcbgfeaoaaDoor

/- copy into an array of the call's own, whatever comes. -/
set_option maxRecDepth 100000
set_option linter.unusedVariables false
namespace Go.Proofs.YtlncnjcbgfeaoaaDoor
open Go.RowKit
section
variable {P : Program} {w : World} {ops : Array Oper} {rest : List Oper} {o : Oper} {f : Act} {Q : Exit → Act → World → Prop} {t e : TypeId} {zero : Value} {bytes : Nat}
theorem S_copyAB {K : Act → World → Prop} {E : Prop} (ty : STy P t e zero 1 bytes) (hgd : o.guard = none) (d s : Operand) (ho : o.op = .call { callee := .builtin .copy, args := #[d, s], argTypes := #[t, t] })
    {g N C n c : Nat} {a : Option Addr} {T : TypeId} {xs ys : List UInt8} (hd : f.eval d = .slice (some ⟨g, 0, none⟩) N C) (hs : f.eval s = .slice a n c)
    (hA : AB w g T xs) (hN : N ≤ xs.length) (hB : BS w a n c ys) (k : Nat) (hk : k = Nat.min n N)
    (h : ∀ w', AB w' g T (ys.take k ++ xs.drop k) → w.grownBy w' (some g) → K (f.put o.dst (goInt k)) w') :
    if Region.wanted o (yielded ops f.tmps) = true then Oper.wp P o f w K Q else E := by
  rw [if_pos (by simp [Region.wanted, hgd])]
  obtain ⟨i, hi, hz0, hz1, hz2⟩ := info_parts ty.info
  have hsz : (P.info? e).map (·.size) = some 1 := by rw [hi]; simp [hz1]
  have hyl := BS.len hB
  by_cases h0 : k = 0
  · subst h0
    have hrun := run_copy_none (P := P) w t t o.type e (some ⟨g, 0, none⟩) a N C n c ty.und hsz hk.symm
    unfold Oper.wp
    simp only [execOp, ho, resolve, invoke, builtin, Sem.run_bind, Sem.run_pure, Result.andThen_ok, List.map_toArray, List.map_cons, List.map_nil, hd, hs, hrun]
    exact h w (by simpa using hA) (World.grownBy.refl w _)
  · have hkn : k ≤ n := by rw [hk]; exact Nat.min_le_left _ _
    have hkN : k ≤ N := by rw [hk]; exact Nat.min_le_right _ _
    cases a with
    | none => have := (RS.nil_inv hB).1; omega
    | some ad =>
      unfold AB at hA
      have hl : ((ys.take k).map B).length = k := by rw [List.length_map, List.length_take]; omega
      have hrun := run_copy_row (P := P) w t t o.type e g 0 N C ad n c _ T ((ys.take k).map B) ty.und hsz hA (by rw [hl]; exact hk) (fun j v hv => RS.cells hB rfl j v (by
        rw [List.getElem?_map, List.getElem?_take] at hv
        rw [List.getElem?_map]
        split at hv
        · exact hv
        · cases hv)) (by rw [hl]; simp; omega) (one_B _)
      rw [hl] at hrun
      unfold Oper.wp
      simp only [execOp, ho, resolve, invoke, builtin, Sem.run_bind, Sem.run_pure, Result.andThen_ok, List.map_toArray, List.map_cons, List.map_nil, hd, hs, hrun]
      refine h _ ?_ (grownBy_setRow w g _)
      unfold AB
      rw [setRow_heap w g _ _ T _ hA]
      simp
theorem L_copyAB (ty : STy P t e zero 1 bytes) (hgd : o.guard = none) (d s : Operand) (ho : o.op = .call { callee := .builtin .copy, args := #[d, s], argTypes := #[t, t] })
    {g N C n c : Nat} {a : Option Addr} {T : TypeId} {xs ys : List UInt8} (hd : f.eval d = .slice (some ⟨g, 0, none⟩) N C) (hs : f.eval s = .slice a n c)
    (hA : AB w g T xs) (hN : N ≤ xs.length) (hB : BS w a n c ys) (k : Nat) (hk : k = Nat.min n N)
    (h : ∀ w', AB w' g T (ys.take k ++ xs.drop k) → w.grownBy w' (some g) → wpList P ops Q rest (f.put o.dst (goInt k)) w') : wpList P ops Q (o :: rest) f w :=
  wpList_step fun K hK => S_copyAB ty hgd d s ho hd hs hA hN hB k hk fun w' h1 h2 => hK _ _ (h w' h1 h2)
end
theorem u8_low4 (x : Nat) (hx : x < 256) : bits .and .u8 (x : Int) 15 = ((x % 16 : Nat) : Int) := by
  have h := u8_and_nat x 15 hx (by decide)
  rw [show (15 : Nat) = 2 ^ 4 - 1 by rfl, Nat.and_two_pow_sub_one_eq_mod] at h
  exact h
theorem and252 : ∀ x : Nat, x < 256 → x &&& 252 = x - x % 4 := by decide +kernel
theorem u8_cut2 (x : Nat) (hx : x < 256) : bits .and .u8 (x : Int) 252 = ((x - x % 4 : Nat) : Int) := by
  have h := u8_and_nat x 252 hx (by decide)
  rw [and252 x hx] at h
  exact h
end Go.Proofs.YtlncnjcbgfeaoaaDoor

/- salt.padded, salt.eight. -/
set_option maxRecDepth 100000
set_option linter.unusedVariables false
namespace Go.Proofs.YtlncnjcbgfeaoaaDoor
open Go.RowKit
def padN (n : Nat) : Nat := (16 - n % 16) % 16
theorem padded_any (w : World) (a : Option Addr) (n c : Nat) (hn : n ≤ 140737488355328) :
    Calls Tryd.prog 75 #[.slice a n c] w fun e w' => ∃ a' c', e = .returned (.slice a' (padN n) c') ∧ OW w' w.heap.size 5 1 a' (padN n) c' ((List.replicate (padN n) 0).map B) ∧ Below w.heap.size w w' := by
  obtain ⟨N, hN⟩ : ∃ N, padN n = N := ⟨_, rfl⟩
  have hNi : (16 - (n : Int) % 16) % 16 = (N : Int) := by unfold padN at hN; omega
  have hN16 : N < 16 := by unfold padN at hN; omega
  rw [hN]
  clear hN
  go_enter Tryd.func75, Tryd.ntmps75
  go_wp2_with (refine L_make tB w.heap.size N rfl rfl _ _ rfl rfl _ _ _ _ rfl rfl (by omega) (by omega) (by omega) (by unfold maxLen; omega) (Nat.le_refl _) ?_; intro w1 o1 g1)
  go_ret
  refine ⟨_, _, rfl, ?_, ?_⟩
  · rw [List.map_replicate]; exact o1
  · exact below_none (Below.refl _ w) g1 (Nat.le_refl _)
/-- a number as eight bytes, the lowest first -/
def le8 (n : Nat) : List UInt8 := (List.range 8).map fun j => UInt8.ofNat (n / 2 ^ (8 * j))
def ei (n j : Nat) : List UInt8 := (List.range 8).map fun i => if i < j then UInt8.ofNat (n / 2 ^ (8 * i)) else 0
theorem ei_len (n j : Nat) : (ei n j).length = 8 := by simp [ei]
theorem ei_set (n j : Nat) (hj : j < 8) : (ei n j).set j (UInt8.ofNat (n / 2 ^ (8 * j))) = ei n (j + 1) := by
  apply List.ext_getElem?
  intro i
  rcases Nat.lt_or_ge i 8 with hi | hi
  · by_cases h : i = j
    · subst h
      rw [List.getElem?_set_self (by rw [ei_len]; omega)]
      unfold ei
      rw [List.getElem?_map, List.getElem?_range hi]; simp
    · rw [List.getElem?_set_ne (fun h2 => h h2.symm)]
      unfold ei
      rw [List.getElem?_map, List.getElem?_map, List.getElem?_range hi]
      simp only [Option.map_some, Option.some.injEq]
      by_cases h2 : i < j
      · rw [if_pos h2, if_pos (by omega)]
      · rw [if_neg h2, if_neg (by omega)]
  · rw [List.getElem?_eq_none (by rw [List.length_set, ei_len]; omega), List.getElem?_eq_none (by rw [ei_len]; omega)]
theorem ei_zero (n : Nat) : ei n 0 = List.replicate 8 0 := by simp [ei, List.range_succ]
theorem ei_all (n : Nat) : ei n 8 = le8 n := by
  unfold ei le8
  apply List.map_congr_left
  intro i hi
  rw [if_pos (List.mem_range.1 hi)]
set_option maxHeartbeats 2000000 in
theorem eight_any (w : World) (n : Nat) (hn : n ≤ 140737488355328) :
    Calls Tryd.prog 76 #[.int .i64 (n : Int)] w fun e w' => ∃ a', e = .returned (.slice a' 8 8) ∧ OW w' w.heap.size 5 1 a' 8 8 ((le8 n).map B) ∧ Below w.heap.size w w' := by
  go_enter Tryd.func76, Tryd.ntmps76
  go_upto_region 2 with (refine L_make tB w.heap.size 8 rfl rfl _ _ rfl rfl _ _ _ _ rfl rfl (by omega) (by omega) (by omega) (by unfold maxLen; omega) (Nat.le_refl _) ?_; intro w1 o1 g1)
  have o1' : OW w1 w.heap.size 5 1 (some ⟨w.heap.size, 0, none⟩) 8 8 ((ei n 0).map B) := by rw [ei_zero, List.map_replicate]; exact o1
  have b1 := below_none (Below.refl _ w) g1 (Nat.le_refl _)
  clear o1 g1
  go_wp2
  go_loopw [8] (fun s8 wr => ∃ j : Nat, j ≤ 8 ∧ s8 = .int .i64 (j : Int) ∧ OW wr w.heap.size 5 1 (some ⟨w.heap.size, 0, none⟩) 8 8 ((ei n j).map B) ∧ Below w.heap.size w wr) (fun s8 _ => 8 - (intOf s8).toNat)
  case atStart => exact ⟨0, by omega, rfl, o1', b1⟩
  case round =>
    obtain ⟨j, hj, rfl, ho, hb⟩ := hrel
    clear o1' b1
    by_cases hlt : j < 8
    · obtain ⟨y, hy⟩ : ∃ y, (ei n j)[j]? = some y := ⟨_, List.getElem?_eq_getElem (by rw [ei_len]; exact hlt)⟩
      have q := ho.cell j (B y) (by rw [List.getElem?_map, hy]; rfl)
      have f := ho.frozen j
      have h2 := ho.setCell j (B (UInt8.ofNat (n / 2 ^ (8 * j)))) rfl
      rw [← List.map_set, ei_set n j hlt] at h2
      have hb2 := hb.grown (grownBy_setCell wr ⟨w.heap.size, j, none⟩ (B (UInt8.ofNat (n / 2 ^ (8 * j))))) hb.size (fun k hk => by cases hk; exact Nat.le_refl _)
      have H2 := Lib.hid h2
      have HB2 := Lib.hid hb2
      have hj8 : j = 0 ∨ j = 1 ∨ j = 2 ∨ j = 3 ∨ j = 4 ∨ j = 5 ∨ j = 6 ∨ j = 7 := by omega
      clear hy ho hb h2 hb2
      rcases hj8 with rfl | rfl | rfl | rfl | rfl | rfl | rfl | rfl
      · have hv : B (UInt8.ofNat (n / 2 ^ (8 * 0))) = .int .u8 ((n : Int) % 256) := by simp only [B, UInt8.toNat_ofNat']; congr 1 <;> omega
        rw [hv] at H2 HB2
        clear hv
        rw [show ((0 : Nat) : Int) = 0 from rfl]
        go_wp2
        go_roundw
        case rel => exact ⟨0 + 1, by omega, rfl, H2.out, HB2.out⟩
        case measure => simp [intOf]
      · have hv : B (UInt8.ofNat (n / 2 ^ (8 * 1))) = .int .u8 ((n : Int) / 256 % 256) := by simp only [B, UInt8.toNat_ofNat']; congr 1 <;> omega
        rw [hv] at H2 HB2
        clear hv
        rw [show ((1 : Nat) : Int) = 1 from rfl]
        go_wp2
        go_roundw
        case rel => exact ⟨1 + 1, by omega, rfl, H2.out, HB2.out⟩
        case measure => simp [intOf]
      · have hv : B (UInt8.ofNat (n / 2 ^ (8 * 2))) = .int .u8 ((n : Int) / 65536 % 256) := by simp only [B, UInt8.toNat_ofNat']; congr 1 <;> omega
        rw [hv] at H2 HB2
        clear hv
        rw [show ((2 : Nat) : Int) = 2 from rfl]
        go_wp2
        go_roundw
        case rel => exact ⟨2 + 1, by omega, rfl, H2.out, HB2.out⟩
        case measure => simp [intOf]
      · have hv : B (UInt8.ofNat (n / 2 ^ (8 * 3))) = .int .u8 ((n : Int) / 16777216 % 256) := by simp only [B, UInt8.toNat_ofNat']; congr 1 <;> omega
        rw [hv] at H2 HB2
        clear hv
        rw [show ((3 : Nat) : Int) = 3 from rfl]
        go_wp2
        go_roundw
        case rel => exact ⟨3 + 1, by omega, rfl, H2.out, HB2.out⟩
        case measure => simp [intOf]
      · have hv : B (UInt8.ofNat (n / 2 ^ (8 * 4))) = .int .u8 ((n : Int) / 4294967296 % 256) := by simp only [B, UInt8.toNat_ofNat']; congr 1 <;> omega
        rw [hv] at H2 HB2
        clear hv
        rw [show ((4 : Nat) : Int) = 4 from rfl]
        go_wp2
        go_roundw
        case rel => exact ⟨4 + 1, by omega, rfl, H2.out, HB2.out⟩
        case measure => simp [intOf]
      · have hv : B (UInt8.ofNat (n / 2 ^ (8 * 5))) = .int .u8 ((n : Int) / 1099511627776) := by simp only [B, UInt8.toNat_ofNat']; congr 1 <;> omega
        rw [hv] at H2 HB2
        clear hv
        rw [show ((5 : Nat) : Int) = 5 from rfl]
        go_wp2
        go_roundw
        case rel => exact ⟨5 + 1, by omega, rfl, H2.out, HB2.out⟩
        case measure => simp [intOf]
      · have hv : B (UInt8.ofNat (n / 2 ^ (8 * 6))) = .int .u8 ((n : Int) / 281474976710656) := by simp only [B, UInt8.toNat_ofNat']; congr 1 <;> omega
        rw [hv] at H2 HB2
        clear hv
        rw [show ((6 : Nat) : Int) = 6 from rfl]
        go_wp2
        go_roundw
        case rel => exact ⟨6 + 1, by omega, rfl, H2.out, HB2.out⟩
        case measure => simp [intOf]
      · have hv : B (UInt8.ofNat (n / 2 ^ (8 * 7))) = .int .u8 ((n : Int) / 72057594037927936) := by simp only [B, UInt8.toNat_ofNat']; congr 1 <;> omega
        rw [hv] at H2 HB2
        clear hv
        rw [show ((7 : Nat) : Int) = 7 from rfl]
        go_wp2
        go_roundw
        case rel => exact ⟨7 + 1, by omega, rfl, H2.out, HB2.out⟩
        case measure => simp [intOf]
    · obtain rfl : j = 8 := by omega
      rw [ei_all] at ho
      have HO := Lib.hid ho
      have HB := Lib.hid hb
      clear ho hb
      go_wp2
      go_ret
      exact ⟨_, rfl, HO.out, HB.out⟩
end Go.Proofs.YtlncnjcbgfeaoaaDoor

/- salt.Tag. -/
set_option maxRecDepth 100000
set_option linter.unusedVariables false
namespace Go.Proofs.YtlncnjcbgfeaoaaDoor
open Go.RowKit
theorem i17 : (Tryd.prog.info? 145).map (·.size) = some 17 := by kernel_rfl
theorem i16 : (Tryd.prog.info? 92).map (·.size) = some 16 := by kernel_rfl
def z17 : List UInt8 := List.replicate 17 0
def z16 : List UInt8 := List.replicate 16 0
theorem blk17_get (P : List UInt8) (t : Nat) (ht : t = Nat.min P.length 16) : (P.take t ++ z17.drop t)[t]? = some 0 := by
  have h1 : t ≤ P.length := by rw [ht]; exact Nat.min_le_left _ _
  have h2 : t ≤ 16 := by rw [ht]; exact Nat.min_le_right _ _
  have hl : (P.take t).length = t := by rw [List.length_take]; omega
  rw [List.getElem?_append_right (by omega), hl, Nat.sub_self, List.getElem?_drop, z17, List.getElem?_replicate, if_pos (by omega)]
theorem blk17_eq (P : List UInt8) (t : Nat) (ht : t = Nat.min P.length 16) : (P.take t ++ z17.drop t).set t 1 = blk17 P := by
  have h1 : t ≤ P.length := by rw [ht]; exact Nat.min_le_left _ _
  have h2 : t ≤ 16 := by rw [ht]; exact Nat.min_le_right _ _
  have hl : (P.take t).length = t := by rw [List.length_take]; omega
  have h16 : P.take 16 = P.take t := by
    rcases Nat.le_total P.length 16 with h | h
    · have : t = P.length := by rw [ht]; exact Nat.min_eq_left h
      rw [List.take_of_length_le h, List.take_of_length_le (by omega)]
    · have : t = 16 := by rw [ht]; exact Nat.min_eq_right h
      rw [this]
  rw [List.set_append_right _ _ (by omega), hl, Nat.sub_self]
  unfold blk17 z17
  rw [h16, hl, List.drop_replicate, show 17 - t = (16 - t) + 1 by omega, List.replicate_succ, List.set_cons_zero, List.append_assoc]
  rfl
theorem drop_part {p : List UInt8} {n k m t : Nat} (hl : p.length = n) (hm : n - 16 * k = m) (h : t = 16 ∨ (t = m ∧ m ≤ 16)) : (p.drop (16 * k)).drop t = p.drop (16 * (k + 1)) := by
  rw [List.drop_drop]
  rcases h with rfl | ⟨rfl, h2⟩
  · congr 1
  · rw [List.drop_eq_nil_of_le (by omega), List.drop_eq_nil_of_le (by omega)]
theorem bits_next (V i k : Nat) : V / 2 ^ (8 * i) % 2 ^ (k + 1) = V / 2 ^ (8 * i) % 2 ^ k + 2 ^ k * (V / 2 ^ (8 * i + k) % 2) := by
  rw [Nat.pow_succ, Nat.mod_mul, Nat.pow_add, Nat.div_div_eq_div_mul]
theorem LB_slice_lb {P : Program} {w : World} {ops : Array Oper} {rest : List Oper} {o : Oper} {f : Act} {Q : Exit → Act → World → Prop} {t e : TypeId} {zero : Value} {bytes : Nat} (ty : STy P t e zero 1 bytes) {a : Option Addr} {n c : Nat} {xs : List UInt8} (hx : BS w a n c xs) (i : Nat) (x l : Operand) (hg : Region.wanted o (yielded ops f.tmps) = true)
    (hop : o.op = .slice t x (some l) none none) (k1 : IntKind) (I : Int) (ex : f.eval x = .slice a n c) (el : f.eval l = .int k1 I) (hI : I = i) (h1 : i ≤ n)
    (h : ∀ a', (∀ ad, a' = some ad → ∃ ad0, a = some ad0 ∧ ad.block = ad0.block) → BS w a' (n - i) (c - i) (xs.drop i) → wpList P ops Q rest (f.put o.dst (.slice a' (n - i) (c - i))) w) : wpList P ops Q (o :: rest) f w :=
  L_slice_l ty hx i x l hg hop k1 I ex el hI h1 fun a' _ h2 h3 => h a' h2 (by
    unfold BS; simpa only [Nat.mul_one, List.map_drop] using h3)
set_option maxHeartbeats 8000000 in
theorem tag_any (w : World) {a : Option Addr} {n c : Nat} {key p d : List UInt8} (hkl : key.length = 32) (hp : BS w a n c p) (hn : n ≤ 1099511627776) (hD : TG key p d) :
    Calls Tryd.prog 74 #[.agg (key.map B).toArray, .slice a n c] w fun e w' => e = .returned (.agg (d.map B).toArray) ∧ Below w.heap.size w w' := by
  have hz1 : (w.alloc (.cells (key.map B).toArray 22)).heap.size = w.heap.size + 1 := by simp
  have hz2 : ((w.alloc (.cells (key.map B).toArray 22)).alloc (.cells (z16.map B).toArray 92)).heap.size = w.heap.size + 1 + 1 := by simp
  have hA := ((AB_box w 22 key).al (.cells (z16.map B).toArray 92)).al (.cells (z17.map B).toArray 145)
  have hO := (AB_box (w.alloc (.cells (key.map B).toArray 22)) 92 z16).al (.cells (z17.map B).toArray 145)
  have hR := AB_box ((w.alloc (.cells (key.map B).toArray 22)).alloc (.cells (z16.map B).toArray 92)) 145 z17
  have hb : Below w.heap.size w _ := ((below_alloc w (.cells (key.map B).toArray 22)).alloc (by simp) (.cells (z16.map B).toArray 92)).alloc (by simp; omega) (.cells (z17.map B).toArray 145)
  have hp1 := ((RS.alloc hp (.cells (key.map B).toArray 22)).alloc (.cells (z16.map B).toArray 92)).alloc (.cells (z17.map B).toArray 145)
  rw [hz1] at hO
  rw [hz2] at hR
  rw [show (z16.map B).toArray = #[.int .u8 0, .int .u8 0, .int .u8 0, .int .u8 0, .int .u8 0, .int .u8 0, .int .u8 0, .int .u8 0, .int .u8 0, .int .u8 0, .int .u8 0, .int .u8 0, .int .u8 0, .int .u8 0, .int .u8 0, .int .u8 0] from rfl] at hA hO hR hb hp1
  rw [show (z17.map B).toArray = #[.int .u8 0, .int .u8 0, .int .u8 0, .int .u8 0, .int .u8 0, .int .u8 0, .int .u8 0, .int .u8 0, .int .u8 0, .int .u8 0, .int .u8 0, .int .u8 0, .int .u8 0, .int .u8 0, .int .u8 0, .int .u8 0, .int .u8 0] from rfl] at hA hO hR hb hp1
  clear hz1 hz2
  go_enter Tryd.func74, Tryd.ntmps74
  go_upto_region 2 with (fail)
  generalize (World.alloc _ _) = W1 at *
  have l0 := hA.lt
  have l1 := hO.lt
  have l2 := hR.lt
  have HO := Lib.hid hO
  have HB := Lib.hid hb
  have HP := Lib.hid hp1
  have hA16 : BS W1.drew (some ⟨w.heap.size, 0, none⟩) 16 32 (key.take 16) := runB_take (hA.whole (n := 32) hkl (by omega)) 16 (by omega)
  have HA := Lib.hid hA
  have HA16 := Lib.hid hA16
  have HR := Lib.hid (show AB W1.drew (w.heap.size + 1 + 1) 145 z17 from hR)
  clear hO hb hp1 hA hA16 hR
  refine wp_region_held_drew (S := fun _ => True) (by kernel_rfl) trivial (fun hHeld => ?_)
  refine wpAnyH_take (i := 0) (v := .slice (some ⟨w.heap.size + 1 + 1, 0, none⟩) 17 17) rfl (by kernel_rfl) (by kernel_rfl) (by kernel_rfl) (fun _ _ _ h => h) (Or.inl ⟨by rfl, fun w h => by go_simp⟩) hHeld ?_
  try simp only [Act.put, List.getElem_toArray, List.setIfInBounds_toArray]
  refine wpAnyH_take (i := 1) (v := .slice (some ⟨w.heap.size, 0, none⟩) 16 32) rfl (by kernel_rfl) (by kernel_rfl) (by kernel_rfl) (fun _ _ _ h => h) (Or.inl ⟨by rfl, fun w h => by go_simp⟩) hHeld ?_
  try simp only [Act.put, List.getElem_toArray, List.getElem_cons_zero, List.setIfInBounds_toArray, List.set_cons_zero, List.set_cons_succ]
  refine wpAnyH_ready (rs := [2]) (by kernel_rfl) (by simp) (AllReadyH.cons rfl (fun K hK => ?_) AllReadyH.nil)
  refine S_copyAB tB rfl _ _ rfl rfl rfl HR.out (by simp [z17]) HA16.out 16 rfl ?_
  intro w3 hR3 hg3
  refine hK.out _ _ trivial (fun hHeld => ?_)
  clear hK K
  refine wpAnyH_done (by kernel_rfl) ?_ _
  try simp only [Act.put, List.getElem_toArray, List.getElem_cons_succ, List.getElem_cons_zero]
  have hR3' : AB w3 (w.heap.size + 1 + 1) 145 (clA key 3 4) := by
    rw [clA_zero key hkl]
    have e : (key.take 16).take 16 ++ z17.drop 16 = key.take 16 ++ [0] := by rw [List.take_take]; rfl
    rw [← e]; exact hR3
  have hA3 := (show AB W1.drew _ _ _ from HA.out).grown hg3 (by simp; omega)
  have hO3 := (show AB W1.drew _ _ _ from HO.out).grown hg3 (by simp)
  have z3 : W1.heap.size ≤ w3.heap.size := hg3.size
  have hb3 := HB.out.drew.grown hg3 HB.out.size (fun k hk => by cases hk; omega)
  have hp3 : BS w3 a n c p := RS.below hp hb3 (Nat.le_refl _)
  have HA3 := Lib.hid hA3
  have HO3 := Lib.hid hO3
  have HB3 := Lib.hid hb3
  obtain ⟨g2, hg2⟩ : ∃ g2, w.heap.size + 1 + 1 = g2 := ⟨_, rfl⟩
  rw [hg2] at hR3' hg3 ⊢
  clear HA HO HB HP HA16 HR hR3 hA3 hO3 hb3 hp3 hg3 hHeld
  go_wp2
  go_loopw [6] (fun s6 wr => ∃ j : Nat, j ≤ 4 ∧ s6 = .int .i64 (3 + 4 * (j : Int)) ∧ AB wr g2 145 (clA key (3 + 4 * j) 4) ∧ w3.grownBy wr (some g2)) (fun s6 _ => 20 - (intOf s6).toNat)
  case atStart => exact ⟨0, by omega, rfl, hR3', World.grownBy.refl w3 _⟩
  case round =>
    obtain ⟨j, hj, rfl, hX, hg⟩ := hrel
    clear hR3'
    by_cases hlt : j < 4
    · obtain ⟨m, hm⟩ : ∃ m, 3 + 4 * j = m := ⟨_, rfl⟩
      have hmi : 3 + 4 * (j : Int) = (m : Int) := by omega
      obtain ⟨h1, h2⟩ := clA_a key m 4 (by omega) (by omega)
      rw [hm] at hX
      rw [hmi]
      obtain ⟨x, hx⟩ : ∃ x, key.getD m 0 = x := ⟨_, rfl⟩
      rw [hx] at h1 h2
      have hxl := x.toNat_lt
      have q0 := hX.cell m x h1
      have f0 := hX.fr m
      have hq2 := hX.set_ m (UInt8.ofNat (x.toNat % 16))
      have hg2 := grown_set hg m (B (UInt8.ofNat (x.toNat % 16)))
      have hv : B (UInt8.ofNat (x.toNat % 16)) = .int .u8 ((x.toNat : Int) % 16) := by simp only [B, UInt8.toNat_ofNat']; congr 1; omega
      have hand := u8_low4 x.toNat hxl
      rw [show ((x.toNat % 16 : Nat) : Int) = (x.toNat : Int) % 16 by omega] at hand
      rw [h2, hv] at hq2
      rw [hv] at hg2
      have HQ2 := Lib.hid hq2
      have HG2 := Lib.hid hg2
      clear h1 h2 hx hq2 hg2 hv hX hg
      simp only [B] at q0
      go_wp2
      go_roundw
      case rel => exact ⟨j + 1, by omega, by go_num, by rw [show 3 + 4 * (j + 1) = m + 4 by omega]; exact HQ2.out, HG2.out⟩
      case measure => simp [intOf]; omega
    · obtain rfl : j = 4 := by omega
      rw [show (3 + 4 * ((4 : Nat) : Int)) = 19 from rfl]
      have HX := Lib.hid hX
      have HG := Lib.hid hg
      clear hX hg
      go_wp2
      go_loopw [7] (fun s7 wr2 => ∃ j : Nat, j ≤ 3 ∧ s7 = .int .i64 (4 + 4 * (j : Int)) ∧ AB wr2 g2 145 (clA key 19 (4 + 4 * j)) ∧ w3.grownBy wr2 (some g2)) (fun s7 _ => 20 - (intOf s7).toNat)
      case atStart => exact ⟨0, by omega, rfl, HX.out, HG.out⟩
      case round =>
        obtain ⟨j, hj, rfl, hX, hg⟩ := hrel
        clear HX HG
        by_cases hlt : j < 3
        · obtain ⟨m, hm⟩ : ∃ m, 4 + 4 * j = m := ⟨_, rfl⟩
          have hmi : 4 + 4 * (j : Int) = (m : Int) := by omega
          obtain ⟨h1, h2⟩ := clA_b key 19 m (by omega) (by omega) (by omega)
          rw [hm] at hX
          rw [hmi]
          obtain ⟨x, hx⟩ : ∃ x, key.getD m 0 = x := ⟨_, rfl⟩
          rw [hx] at h1 h2
          have hxl := x.toNat_lt
          have q0 := hX.cell m x h1
          have f0 := hX.fr m
          have hq2 := hX.set_ m (UInt8.ofNat (x.toNat - x.toNat % 4))
          have hg2 := grown_set hg m (B (UInt8.ofNat (x.toNat - x.toNat % 4)))
          obtain ⟨y, hy⟩ : ∃ y, x.toNat - x.toNat % 4 = y := ⟨_, rfl⟩
          have hand := u8_cut2 x.toNat hxl
          rw [hy] at h2 hand hq2 hg2
          have hv : B (UInt8.ofNat y) = .int .u8 (y : Int) := by simp only [B, UInt8.toNat_ofNat']; congr 1; omega
          rw [h2, hv] at hq2
          rw [hv] at hg2
          have HQ2 := Lib.hid hq2
          have HG2 := Lib.hid hg2
          clear h1 h2 hx hq2 hg2 hv hX hg hy
          simp only [B] at q0
          go_wp2
          go_roundw
          case rel => exact ⟨j + 1, by omega, by go_num, by rw [show 4 + 4 * (j + 1) = m + 4 by omega]; exact HQ2.out, HG2.out⟩
          case measure => simp [intOf]; omega
        · obtain rfl : j = 3 := by omega
          rw [show (4 + 4 * ((3 : Nat) : Int)) = 16 from rfl]
          have hX : AB wr g2 145 (clA key 19 16) := hX
          have hA4 := HA3.out.grown hg (by simp; omega)
          have hO4 := HO3.out.grown hg (by simp; omega)
          have hb4 := HB3.out.grown hg HB3.out.size (fun k hk => by cases hk; omega)
          have hcl := clA_len key 19 16
          have hKn : EN (tagK key) (ldL (numL (clA key 19 16)) 5 0) := ⟨rfl⟩
          have hKf : LF (tagK key) := ldL_lf _
          have hres := hD.h
          unfold tagS at hres
          obtain ⟨R, hR⟩ : ∃ R, clA key 19 16 = R := ⟨_, rfl⟩
          rw [hR] at hX hcl hKn
          have rR := hX.rng
          have HRl := Lib.hid (show (Tryd.prog.info? 145).map (·.size) = some (R.map B).length by rw [List.length_map, hcl]; exact i17)
          have hld := load_any wr hcl
          rw [← hKn.h] at hld
          obtain ⟨K, hK⟩ : ∃ K, tagK key = K := ⟨_, rfl⟩
          rw [hK] at hld hKf hres
          have Hld := Lib.hid hld
          have Hres := Lib.hid hres
          have HKf := Lib.hid hKf
          have HA4 := Lib.hid hA4
          have HO4 := Lib.hid hO4
          have HB4 := Lib.hid hb4
          have hKl := hKf.len
          have lg4 := hg.size
          clear hX hg hR hKn hld hK hA4 hO4 hb4 hres hKf HA3 HO3 HB3
          go_upto_region 12 with (first
            | (refine wpList_load_mid rfl _ _ rfl _ _ rfl (R.map B) _ rR Tryd.underlying145 rfl HRl.out ?_)
            | (go_at_call 92; refine Hld.out.mono ?_; rintro e w5 ⟨rfl, hB5⟩)
            | (refine L_storeL rfl _ _ _ rfl K rfl rfl (show AL (w5.alloc _) w5.heap.size 147 [0, 0, 0, 0, 0] from heap_alloc_new w5 _) iL (by simp) hKl ?_; intro w6 hK6 hg6))
          have z5 := hB5.size
          have lA := HA4.out.lt
          have lO := HO4.out.lt
          have hA6 := ((HA4.out.bl hB5 lA).al (.cells #[.int .u64 0, .int .u64 0, .int .u64 0, .int .u64 0, .int .u64 0] 147)).grown hg6 (by simp; omega)
          have hO6 := ((HO4.out.bl hB5 lO).al (.cells #[.int .u64 0, .int .u64 0, .int .u64 0, .int .u64 0, .int .u64 0] 147)).grown hg6 (by simp; omega)
          have hb6 := ((HB4.out.trans (hB5.mono HB4.out.size)).alloc (Nat.le_trans HB4.out.size z5) (.cells #[.int .u64 0, .int .u64 0, .int .u64 0, .int .u64 0, .int .u64 0] 147)).grown hg6 (by simp; have := HB4.out.size; omega) (fun k hk => by cases hk; have := HB4.out.size; omega)
          obtain ⟨g8, hg8⟩ : ∃ g8, w5.heap.size = g8 := ⟨_, rfl⟩
          rw [hg8] at hK6 ⊢
          have lg8 : w.heap.size + 1 < g8 := by omega
          have hA7 := hA6.al (.cells #[.int .u64 0, .int .u64 0, .int .u64 0, .int .u64 0, .int .u64 0] 147)
          have hO7 := hO6.al (.cells #[.int .u64 0, .int .u64 0, .int .u64 0, .int .u64 0, .int .u64 0] 147)
          have hK7 := hK6.al (.cells #[.int .u64 0, .int .u64 0, .int .u64 0, .int .u64 0, .int .u64 0] 147)
          have hb7 := hb6.alloc hb6.size (.cells #[.int .u64 0, .int .u64 0, .int .u64 0, .int .u64 0, .int .u64 0] 147)
          have hH : AL (w6.alloc (.cells #[.int .u64 0, .int .u64 0, .int .u64 0, .int .u64 0, .int .u64 0] 147)) w6.heap.size 147 (hrun K p 0) := heap_alloc_new _ _
          have lK6 := hK6.lt
          have lH := hH.lt
          have HA7 := Lib.hid hA7
          have HO7 := Lib.hid hO7
          have HK7 := Lib.hid hK7
          have HB7 := Lib.hid hb7
          obtain ⟨g9, hg9⟩ : ∃ g9, w6.heap.size = g9 := ⟨_, rfl⟩
          rw [hg9] at hH lH
          have l89 : g8 < g9 := by omega
          clear hA6 hO6 hb6 hK6 hA7 hO7 hK7 hb7 HA4 HO4 HB4 Hld hB5 hg6 rR
          go_upto_region 13 with (fail)
          generalize (World.alloc _ _) = W7 at *
          clear hg9
          go_wp2
          go_loopw [1] (fun s1 wr => ∃ (k : Nat) (a' : Option Addr) (c' : Nat), 16 * k < n + 16 ∧ s1 = .slice a' (n - 16 * k) c' ∧ BS wr a' (n - 16 * k) c' (p.drop (16 * k)) ∧ (∀ ad, a' = some ad → ∃ ad0, a = some ad0 ∧ ad.block = ad0.block) ∧ AL wr g9 147 (hrun K p k) ∧ W7.grownBy wr (some g9)) (fun s1 _ => lenV s1)
          case atStart => exact ⟨0, a, c, by omega, rfl, by simpa using RS.below hp HB7.out (Nat.le_refl _), fun ad had => ⟨ad, had, rfl⟩, hH, World.grownBy.refl W7 _⟩
          case round =>
            obtain ⟨k, a', c', hk, rfl, hP, hab, hX, hg⟩ := hrel
            clear hH
            obtain ⟨m, hm⟩ : ∃ m, n - 16 * k = m := ⟨_, rfl⟩
            rw [hm] at hP ⊢
            by_cases hlt : 0 < m
            · have hPl := BS.len hP
              obtain ⟨P, hPe⟩ : ∃ P, p.drop (16 * k) = P := ⟨_, rfl⟩
              have hHn := (hrun_nf HKf.out p k).lf
              have hnx : EN (hrun K p (k + 1)) (hstep K (hrun K p k) P) := ⟨by rw [← hPe]; rfl⟩
              obtain ⟨H, hHe⟩ : ∃ H, hrun K p k = H := ⟨_, rfl⟩
              rw [hHe] at hX hHn hnx
              rw [hPe] at hP hPl
              have hPd : EB (p.drop (16 * k)) P := ⟨hPe⟩
              obtain ⟨t, ht⟩ : ∃ t, Nat.min m 16 = t := ⟨_, rfl⟩
              have ht1 : t ≤ m := by rw [← ht]; exact Nat.min_le_left _ _
              have ht2 : t ≤ 16 := by rw [← ht]; exact Nat.min_le_right _ _
              have ht3 : 0 < t := by rcases Nat.le_total m 16 with h | h; (rw [← ht, show Nat.min m 16 = m from Nat.min_eq_left h]; exact hlt); (rw [← ht, show Nat.min m 16 = 16 from Nat.min_eq_right h]; omega)
              have ht4 : t = 16 ∨ t = m := by rcases Nat.le_total m 16 with h | h; (right; rw [← ht]; exact Nat.min_eq_left h); (left; rw [← ht]; exact Nat.min_eq_right h)
              have hbe := blk17_eq P t (by rw [hPl]; exact ht.symm)
              have hbg := blk17_get P t (by rw [hPl]; exact ht.symm)
              have hbl := blk17_len P
              have HX := Lib.hid hX
              have HG := Lib.hid hg
              have hP1 : BS (wr.alloc (.cells (z17.map B).toArray 145)) a' m c' P := RS.alloc hP _
              have hab3 := Lib.hid hab
              have hab2 : ∀ ad, a' = some ad → ad.block < w.heap.size := fun ad had => by obtain ⟨ad0, h0, h1⟩ := hab ad had; rw [h1]; exact hp.block_lt h0 (by omega) (by omega)
              have hB1 := AB_box wr 145 z17
              have hX8 := HX.out.al (.cells (z17.map B).toArray 145)
              have hg1 := grown_trans hg (World.grownBy_alloc wr (.cells (z17.map B).toArray 145) (some g9))
              have lw := hg.size
              rw [show (z17.map B).toArray = #[.int .u8 0, .int .u8 0, .int .u8 0, .int .u8 0, .int .u8 0, .int .u8 0, .int .u8 0, .int .u8 0, .int .u8 0, .int .u8 0, .int .u8 0, .int .u8 0, .int .u8 0, .int .u8 0, .int .u8 0, .int .u8 0, .int .u8 0] from rfl] at hP1 hB1 hg1 hX8
              have HX8 := Lib.hid hX8
              obtain ⟨gb, hgb⟩ : ∃ gb, wr.heap.size = gb := ⟨_, rfl⟩
              rw [hgb] at hB1 lw
              clear hPe hHe hX hg hP hm hab hX8
              go_upto_region 15 with (fail)
              generalize (World.alloc _ _) = W8 at *
              have HG1 := Lib.hid hg1
              clear hg1
              go_upto_region 16 with (refine L_copyAB tB rfl _ _ rfl rfl rfl hB1 (by simp [z17]) hP1 t ht.symm ?_; intro w9 hB9 hg9)
              have hP9 := hP1.grown hg9 (fun ad had => by have := hab2 ad had; simp; omega)
              have hG9 := grown_new HG1.out hg9 (by omega)
              have hX9 := HX8.out.grown hg9 (by simp; omega)
              have q0 : w9.cell? ⟨gb, t, none⟩ = some (.int .u8 0) := hB9.cell t 0 hbg
              have f0 := hB9.fr t
              have hB10 := hB9.set_ t 1
              rw [hbe] at hB10
              have hg10 := grownBy_setCell w9 ⟨gb, t, none⟩ (B 1)
              have hX10 := hX9.grown hg10 (by simp; omega)
              have hP10 := hP9.grown hg10 (fun ad had => by have := hab2 ad had; simp; omega)
              have hG10 := grown_new hG9 hg10 (show W7.heap.size ≤ gb by omega)
              simp only [show B (1 : UInt8) = .int .u8 1 from rfl] at hB10 hg10 hP10 hG10 hX10
              have HB10 := Lib.hid hB10
              have HP10 := Lib.hid hP10
              have HG10 := Lib.hid hG10
              have HX10 := Lib.hid hX10
              clear hP1 hB1 HG1 hB9 hP9 hG9 hB10 hg10 hP10 hG10 hg9 hX9 hX10 HX8 HX
              go_upto_region 17 with (fail)
              clear q0 f0
              generalize (World.setCell _ _ _) = W10 at *
              obtain ⟨BK, hBK⟩ : ∃ BK, blk17 P = BK := ⟨_, rfl⟩
              have hld := load_any W10 hbl
              have hXf := ldL_lf (numL (blk17 P))
              have hB10 := HB10.out
              have hXn : EN (hstep K H P) (cars (tmul (cars (addL H (ldL (numL (blk17 P)) 5 0) 5) 2) K 5) 2) := ⟨rfl⟩
              obtain ⟨XL, hXL⟩ : ∃ XL, ldL (numL (blk17 P)) 5 0 = XL := ⟨_, rfl⟩
              rw [hXL] at hld hXf hXn
              rw [hBK] at hld hbl hB10
              have rB := hB10.rng
              have HBl := Lib.hid (show (Tryd.prog.info? 145).map (·.size) = some (BK.map B).length by rw [List.length_map, hbl]; exact i17)
              have Hld := Lib.hid hld
              have HXf := Lib.hid hXf
              have hXl := hXf.len
              clear hld hB10 hBK hXL HB10 hXf
              go_upto_region 18 with (first
                | (refine wpList_load_mid rfl _ _ rfl _ _ rfl (BK.map B) _ rB Tryd.underlying145 rfl HBl.out ?_)
                | (go_at_call 92; refine Hld.out.mono ?_; rintro e w11 ⟨rfl, hB11⟩)
                | (refine L_storeL rfl _ _ _ rfl XL rfl rfl (show AL (w11.alloc _) w11.heap.size 147 [0, 0, 0, 0, 0] from heap_alloc_new w11 _) iL (by simp) hXl ?_; intro w12 hL12 hg12))
              have z10 := HG10.out.size
              have z11 := hB11.size
              have lX := HX10.out.lt
              have hX12 := ((show AL w11 g9 147 H by unfold AL; rw [hB11.block g9 lX]; exact HX10.out).al (.cells #[.int .u64 0, .int .u64 0, .int .u64 0, .int .u64 0, .int .u64 0] 147)).grown hg12 (by simp; omega)
              have hb12 : Below W10.heap.size W10 w12 := (hB11.alloc z11 _).grown hg12 (by simp; omega) (fun k hk => by cases hk; exact z11)
              have hP12 := RS.below HP10.out hb12 (Nat.le_refl _)
              have hG12 : W7.grownBy w12 (some g9) := ⟨hb12.os.trans HG10.out.os, hb12.tape.trans HG10.out.tape, hb12.output.trans HG10.out.output, Nat.le_trans HG10.out.size hb12.size, fun k hk hne => (hb12.block k (by omega)).trans (HG10.out.block k hk hne)⟩
              obtain ⟨g12, hg12e⟩ : ∃ g12, w11.heap.size = g12 := ⟨_, rfl⟩
              rw [hg12e] at hL12 ⊢
              have hL5 := HXf.out
              have l12 : g9 < g12 := by omega
              have hX0 : AL w12 g9 147 (addL H XL 0) := by rw [addL_zero hHn.len]; exact hX12
              have HL12 := Lib.hid hL12
              have HP12 := Lib.hid hP12
              have HG12 := Lib.hid hG12
              clear hX12 hb12 hP12 hG12 hg12e hL12 hg12 hB11 Hld rB HX10 HP10 HG10 hL5 z10 z11 lX
              go_wp2
              go_loopw [53] (fun s53 wr => ∃ i : Nat, i ≤ 5 ∧ s53 = .int .i64 (i : Int) ∧ AL wr g9 147 (addL H XL i) ∧ w12.grownBy wr (some g9)) (fun s53 _ => 5 - (intOf s53).toNat)
              case atStart => exact ⟨0, by omega, rfl, hX0, World.grownBy.refl w12 _⟩
              case round =>
                obtain ⟨i, hi, rfl, hQ, hgq⟩ := hrel
                clear hX0
                by_cases hi5 : i < 5
                · obtain ⟨x, ex, lx⟩ := hHn.get i hi5
                  obtain ⟨y, ey, ly⟩ := HXf.out.get i hi5
                  have eg := addL_get H XL i hi5 x ex
                  have es := addL_set H XL i hi5 x y ex ey
                  have q0 := hQ.cell i x eg
                  have q1 := (HL12.out.grown hgq (by simp; omega)).cell i y ey
                  have f0 := hQ.fr i
                  have hq2 := hQ.set_ i (x + y)
                  have hg2 := grown_set hgq i (.int .u64 ((x + y : Nat) : Int))
                  have hv : ((x + y : Nat) : Int) = (x : Int) + (y : Int) := by omega
                  rw [es, hv] at hq2
                  rw [hv] at hg2
                  have HQ2 := Lib.hid hq2.drew
                  have HG2 := Lib.hid (grown_drew hg2)
                  clear ex ey eg es hq2 hg2 hv hQ hgq
                  go_upto_region 21 with (fail)
                  go_region
                  clear q0 q1 f0
                  generalize World.drew _ = W13 at *
                  go_wp2
                  go_roundw
                  case rel => exact ⟨i + 1, by omega, by go_num, HQ2.out, HG2.out⟩
                  case measure => simp [intOf]; omega
                · obtain rfl : i = 5 := by omega
                  rw [show ((5 : Nat) : Int) = 5 from rfl]
                  have hlm := addL_lm hHn HXf.out
                  have hc1 := (cars_nf hlm).lf
                  obtain ⟨S, hS⟩ : ∃ S, addL H XL 5 = S := ⟨_, rfl⟩
                  rw [hS] at hQ hlm hc1 hXn
                  have hcar := carry_any wr hQ hlm
                  obtain ⟨C, hC⟩ : ∃ C, cars S 2 = C := ⟨_, rfl⟩
                  rw [hC] at hcar hc1 hXn
                  have hlt2 := (LT.mul hc1 HKf.out 5 (Nat.le_refl _)).room
                  have hDl := (hlt2.cars 2 (by omega)).len
                  have htm := fun w0 => times_any w0 hc1 HKf.out
                  obtain ⟨D, hDe⟩ : ∃ D, cars (tmul C K 5) 2 = D := ⟨_, rfl⟩
                  have hDn : EN (hrun K p (k + 1)) D := ⟨by rw [hnx.h, hXn.h]; exact hDe⟩
                  rw [hDe] at hDl htm
                  have Hcar := Lib.hid hcar
                  have Htm := Lib.hid htm
                  have HcC := Lib.hid hc1
                  have HC5 := Lib.hid (show (Tryd.prog.info? 147).map (·.size) = some (C.map UV).length by rw [List.length_map, hc1.len]; exact iL)
                  have HK5 := Lib.hid (show (Tryd.prog.info? 147).map (·.size) = some (K.map UV).length by rw [List.length_map, hKl]; exact iL)
                  have hKr := (HK7.out.grown (grown_trans HG12.out hgq) (by simp; omega))
                  have HKr := Lib.hid hKr
                  have HGq := Lib.hid (grown_trans HG12.out hgq)
                  have HPq := Lib.hid (HP12.out.grown hgq (fun ad had => by have := hab2 ad had; simp; omega))
                  have lq := hgq.size
                  clear hQ hlm hc1 hS hcar hC hlt2 htm hDe hKr hgq HG12 HP12 HL12
                  go_upto_region 24 with (go_at_call 93; refine Hcar.out.mono ?_; rintro e w14 ⟨rfl, hC14, hg14⟩)
                  have rC := hC14.rng
                  have rK := (HKr.out.grown hg14 (by simp; omega)).rng
                  have hl14 := hC14.lt
                  go_upto_region 25 with (first
                    | (refine wpList_load_mid rfl _ _ rfl _ _ rfl (C.map UV) _ rC Tryd.underlying147 rfl HC5.out ?_)
                    | (refine wpList_load_mid rfl _ _ rfl _ _ rfl (K.map UV) _ rK Tryd.underlying147 rfl HK5.out ?_)
                    | (go_at_call 94; refine (Htm.out _).mono ?_; rintro e w15 ⟨rfl, hB15⟩)
                    | (refine L_storeL rfl _ _ _ rfl D rfl rfl (show AL w15 g9 147 C by unfold AL; rw [hB15.block g9 hl14]; exact hC14) iL HcC.out.len hDl ?_; intro w16 hD16 hg16))
                  have hP15 := RS.below (HPq.out.grown hg14 (fun ad had => by have := hab2 ad had; simp; omega)) hB15 (Nat.le_refl _)
                  have hP16 := hP15.grown hg16 (fun ad had => by have := hab2 ad had; simp; omega)
                  have z14 := hg14.size
                  have hG14 := grown_trans HGq.out hg14
                  have hG15 : W7.grownBy w15 (some g9) := ⟨hB15.os.trans hG14.os, hB15.tape.trans hG14.tape, hB15.output.trans hG14.output, Nat.le_trans hG14.size hB15.size, fun k hk hne => (hB15.block k (Nat.lt_of_lt_of_le hk hG14.size)).trans (hG14.block k hk hne)⟩
                  have hG16 := grown_trans hG15 hg16
                  have hdp := drop_part (BS.len hp) (show n - 16 * k = m by rw [← hPl, ← hPd.h, List.length_drop, BS.len hp]) (show t = 16 ∨ (t = m ∧ m ≤ 16) by omega)
                  rw [hPd.h] at hdp
                  have hmk : n - 16 * k = m := by rw [← hPl, ← hPd.h, List.length_drop, BS.len hp]
                  rw [← hDn.h] at hD16
                  have HD16 := Lib.hid hD16
                  have HG16 := Lib.hid hG16
                  have Hdp := EB.mk hdp
                  have Hmk := Lib.hid hmk
                  clear hP15 hG14 hG15 hG16 hdp hmk hD16 hg14 hg16 hB15 hC14 rC rK Hcar Htm HKr HGq HPq
                  go_wp2_with (refine LB_slice_lb tB hP16 t _ _ rfl rfl _ _ rfl rfl rfl ht1 ?_; intro a9 ha9 hP17)
                  rw [Hdp.h] at hP17
                  have HP17 := Lib.hid hP17
                  have hab9 : ∀ ad, a9 = some ad → ∃ ad0, a = some ad0 ∧ ad.block = ad0.block := fun ad had => by
                    obtain ⟨ad1, h1, h2⟩ := ha9 ad had
                    obtain ⟨ad0, h3, h4⟩ := hab3.out ad1 h1
                    exact ⟨ad0, h3, h2.trans h4⟩
                  have hmt : m - t = n - 16 * (k + 1) := by have := Hmk.out; omega
                  rw [hmt] at hP17 HP17 ⊢
                  go_roundw
                  case rel => exact ⟨k + 1, a9, _, by have := Hmk.out; omega, rfl, HP17.out, hab9, HD16.out, HG16.out⟩
                  case measure => have := Hmk.out; simp [lenV]; omega
            · obtain rfl : m = 0 := by omega
              have hkn : (n + 15) / 16 = k := by omega
              have hres := Hres.out
              rw [BS.len hp, hkn] at hres
              have hHn := (hrun_nf HKf.out p k).lf
              have hnn := (leastS_val (cars_nn (hrun_nf HKf.out p k))).1
              obtain ⟨H, hHe⟩ : ∃ H, hrun K p k = H := ⟨_, rfl⟩
              rw [hHe] at hX hHn hres hnn
              have hls := fun w0 => least_any w0 hHn.lm
              obtain ⟨L, hL⟩ : ∃ L, leastS (cars H 2) = L := ⟨_, rfl⟩
              rw [hL] at hls hres hnn
              have rH := hX.rng
              have HH5 := Lib.hid (show (Tryd.prog.info? 147).map (·.size) = some (H.map UV).length by rw [List.length_map, hHn.len]; exact iL)
              have hLl : L.length = 5 := by obtain ⟨_, _, _, _, _, h, _⟩ := hnn.h; rw [h]; rfl
              have Hls := Lib.hid hls
              have Hnn := Lib.hid hnn
              have Hr := Lib.hid hres
              have HHl := Lib.hid hHn.len
              have hA8 := HA7.out.grown hg (by simp; omega)
              have hO8 := HO7.out.grown hg (by simp; omega)
              have hb8 := HB7.out.grown hg HB7.out.size (fun k hk => by cases hk; omega)
              have HA8 := Lib.hid hA8
              have HO8 := Lib.hid hO8
              have HB8 := Lib.hid hb8
              have lX := hX.lt
              clear hls hnn hres hHn hHe hL hA8 hO8 hb8 hg hP hab HK7 HA7 HO7 HB7 Hres hkn hm
              go_upto_region 27 with (first
                | (refine wpList_load_mid rfl _ _ rfl _ _ rfl (H.map UV) _ rH Tryd.underlying147 rfl HH5.out ?_)
                | (go_at_call 95; refine (Hls.out _).mono ?_; rintro e w21 ⟨rfl, hB21⟩)
                | (refine L_storeL rfl _ _ _ rfl L rfl rfl (show AL w21 g9 147 H by unfold AL; rw [hB21.block g9 lX]; exact hX) iL HHl.out hLl ?_; intro w22 hL22 hg22))
              obtain ⟨V, hV⟩ : ∃ V, valL L = V := ⟨_, rfl⟩
              have hbit := fun m hm => Hnn.out.bit m hm
              have hr := Hr.out
              simp only [hV] at hbit
              rw [hV] at hr
              obtain ⟨ks, hks⟩ : ∃ ks, key.drop 16 = ks := ⟨_, rfl⟩
              have hkg : ∀ i, i < 16 → ∃ y, key[16 + i]? = some y ∧ ks.getD i 0 = y := fun i hi => by
                refine ⟨key[16 + i]'(by omega), List.getElem?_eq_getElem _, ?_⟩
                rw [← hks, List.getD_eq_getElem?_getD, List.getElem?_drop, List.getElem?_eq_getElem (by omega)]; rfl
              rw [hks] at hr
              have Hbit := Lib.hid hbit
              have Hkg := Lib.hid hkg
              have Htd := EB.mk hr
              have z8 := HB8.out.size
              have z21 := hB21.size
              have z22 := hg22.size
              have hA22 := (HA8.out.bl hB21 HA8.out.lt).grown hg22 (by simp; omega)
              have hO22 := (HO8.out.bl hB21 HO8.out.lt).grown hg22 (by simp; omega)
              have hb22 := (HB8.out.trans (hB21.mono z8)).grown hg22 (Nat.le_trans z8 z21) (fun k hk => by cases hk; omega)
              have lL := hL22.lt
              have HA23 := Lib.hid (hA22.al (.cells (z16.map B).toArray 92))
              have HO23 := Lib.hid (hO22.al (.cells (z16.map B).toArray 92))
              have HL23 := Lib.hid (hL22.al (.cells (z16.map B).toArray 92))
              have HB23 := Lib.hid (hb22.alloc hb22.size (.cells (z16.map B).toArray 92))
              have hT : AB (w22.alloc (.cells (z16.map B).toArray 92)) w22.heap.size 92 (tout V ks 0) := by rw [tout_zero]; exact AB_box _ _ _
              rw [show (z16.map B).toArray = #[.int .u8 0, .int .u8 0, .int .u8 0, .int .u8 0, .int .u8 0, .int .u8 0, .int .u8 0, .int .u8 0, .int .u8 0, .int .u8 0, .int .u8 0, .int .u8 0, .int .u8 0, .int .u8 0, .int .u8 0, .int .u8 0] from rfl] at HA23 HO23 HL23 HB23 hT
              have l22 : w.heap.size + 1 < w22.heap.size := by have := hO22.lt; omega
              obtain ⟨g14, hg14⟩ : ∃ g14, w22.heap.size = g14 := ⟨_, rfl⟩
              rw [hg14] at hT l22 lL
              clear hV hbit hr hks hkg hA22 hO22 hb22 hL22 hg22 hB21 Hls Hnn Hr HA8 HO8 HB8 hX rH z22 lX
              go_upto_region 28 with (fail)
              generalize (World.alloc _ _) = W23 at *
              clear hg14
              go_wp2
              go_loopw [15, 74] (fun s15 s74 wr => ∃ i : Nat, i ≤ 16 ∧ s15 = .int .u64 ((tcar V ks i : Nat) : Int) ∧ s74 = .int .i64 (i : Int) ∧ AB wr g14 92 (tout V ks i) ∧ W23.grownBy wr (some g14)) (fun _ s74 _ => 16 - (intOf s74).toNat)
              case atStart => exact ⟨0, by omega, rfl, rfl, hT, World.grownBy.refl W23 _⟩
              case round =>
                obtain ⟨i, hi, rfl, rfl, hX, hg⟩ := hrel
                clear hT
                by_cases hi16 : i < 16
                · obtain ⟨cv, hcv⟩ : ∃ cv, tcar V ks i = cv := ⟨_, rfl⟩
                  have hc1 : cv ≤ 1 := by rw [← hcv]; exact tcar_le V ks i
                  have Hcv := Lib.hid hcv
                  rw [hcv]
                  have hL24 := HL23.out.grown hg (by simp; omega)
                  have HL24 := Lib.hid hL24
                  have HX := Lib.hid hX
                  have HG := Lib.hid hg
                  clear hcv hL24 hX hg
                  go_wp2
                  rw [show decide ((i : Int) < 16) = true from decide_eq_true (by omega)]
                  go_loopw [17, 77] (fun s17 s77 w2 => wr = w2 ∧ ∃ k : Nat, k ≤ 8 ∧ s17 = .int .u64 ((V / 2 ^ (8 * i) % 2 ^ k : Nat) : Int) ∧ s77 = .int .i64 (k : Int)) (fun _ s77 _ => 8 - (intOf s77).toNat)
                  case atStart => exact ⟨rfl, 0, by omega, by simp [Nat.mod_one], rfl⟩
                  case round =>
                    obtain ⟨rfl, k, hk, rfl, rfl⟩ := hrel
                    by_cases hk8 : k < 8
                    · obtain ⟨m, hm⟩ : ∃ m, 8 * i + k = m := ⟨_, rfl⟩
                      have hm128 : m < 128 := by omega
                      have hmi : 8 * (i : Int) + (k : Int) = (m : Int) := by omega
                      obtain ⟨x, hx, lx, hxb⟩ := Hbit.out m (by omega)
                      have hnext := bits_next V i k
                      rw [hm, ← hxb] at hnext
                      obtain ⟨x0, hx0⟩ : ∃ x0, V / 2 ^ (8 * i) % 2 ^ k = x0 := ⟨_, rfl⟩
                      have hxl : x0 < 2 ^ k := by rw [← hx0]; exact Nat.mod_lt _ (Nat.two_pow_pos k)
                      rw [hx0] at hnext ⊢
                      obtain ⟨e26, he26⟩ : ∃ e26, m % 26 = e26 := ⟨_, rfl⟩
                      obtain ⟨j26, hj26⟩ : ∃ j26, m / 26 = j26 := ⟨_, rfl⟩
                      rw [he26] at hnext
                      rw [hj26] at hx
                      obtain ⟨b, hbe⟩ : ∃ b, x / 2 ^ e26 % 2 = b := ⟨_, rfl⟩
                      rw [hbe] at hnext
                      have hb2 : b < 2 := by omega
                      have hor := or_up x0 b k hxl (by omega) hb2
                      have q1 := HL24.out.cell j26 x hx
                      have d26 : (m : Int) / 26 = (j26 : Int) := by omega
                      have r26 : (m : Int) % 26 = (e26 : Int) := by omega
                      have hj5 : j26 < 5 := by omega
                      have he : e26 < 26 := by omega
                      have hand : bits .and .u64 ((x : Int) / 2 ^ e26) 1 = (b : Int) := by
                        have hlt8 : x / 2 ^ e26 < 18446744073709551616 := Nat.lt_of_le_of_lt (Nat.div_le_self _ _) (by omega)
                        have h := u64_and_nat (x / 2 ^ e26) 1 hlt8 (by decide)
                        rw [Nat.and_one_is_mod, hbe] at h
                        rw [show ((x : Int) / 2 ^ e26) = ((x / 2 ^ e26 : Nat) : Int) by simp]
                        exact h
                      obtain ⟨sv, hsv⟩ : ∃ sv, 2 ^ k * b = sv := ⟨_, rfl⟩
                      rw [hsv] at hor hnext
                      have hp26 : 2 ^ k ≤ 2 ^ 26 := Nat.pow_le_pow_right (by decide) (by omega)
                      have hsv26 : sv ≤ 67108864 := by rw [← hsv]; exact Nat.le_trans (Nat.mul_le_mul hp26 (show b ≤ 1 by omega)) (by decide)
                      have hshl : (b : Int) * 2 ^ k = (sv : Int) := by rw [← hsv]; simp [Int.mul_comm]
                      have hwr : IntKind.u64.wrap (sv : Int) = (sv : Int) := IntWalk.u64_in _ (by omega)
                      obtain ⟨nv, hnv⟩ : ∃ nv, x0 + sv = nv := ⟨_, rfl⟩
                      rw [hnv] at hor hnext
                      have Hnext := Lib.hid hnext
                      clear hm hx hxb hnext hx0 hbe he26 hj26 hsv hnv
                      go_wp2
                      go_roundw
                      case rel => exact ⟨trivial, k + 1, by omega, by rw [Hnext.out], by go_num⟩
                      case measure => simp [intOf]; omega
                    · obtain rfl : k = 8 := by omega
                      rw [show ((8 : Nat) : Int) = 8 from rfl]
                      obtain ⟨y, hy, hyk⟩ := Hkg.out i hi16
                      have q2 : wr.cell? ⟨w.heap.size, 16 + i, none⟩ = some (.int .u8 (y.toNat : Int)) := (HA23.out.grown HG.out (by simp; omega)).cell (16 + i) y hy
                      have hyl := y.toNat_lt
                      obtain ⟨bv, hbv⟩ : ∃ bv, V / 2 ^ (8 * i) % 2 ^ 8 = bv := ⟨_, rfl⟩
                      have hbl : bv < 256 := by rw [← hbv]; exact Nat.mod_lt _ (by decide)
                      rw [hbv]
                      obtain ⟨m, hm⟩ : ∃ m, 16 + i = m := ⟨_, rfl⟩
                      have hmi : 16 + (i : Int) = (m : Int) := by omega
                      rw [hm] at q2
                      have hset := tout_set V ks i hi16
                      have htn : tcar V ks (i + 1) = (tcar V ks i + V / 2 ^ (8 * i) % 2 ^ 8 + (ks.getD i 0).toNat) / 256 := rfl
                      rw [show (256 : Nat) = 2 ^ 8 by rfl] at hset
                      rw [Hcv.out, hbv, hyk] at hset htn
                      obtain ⟨sv, hsv⟩ : ∃ sv, cv + bv + y.toNat = sv := ⟨_, rfl⟩
                      have hsi : (cv : Int) + ((bv : Int) + (y.toNat : Int)) = (sv : Int) := by omega
                      have hs512 : sv < 512 := by omega
                      rw [hsv] at hset htn
                      have f14 := HX.out.fr i
                      obtain ⟨old, hold⟩ : ∃ old, (tout V ks i)[i]? = some old := ⟨_, List.getElem?_eq_getElem (by rw [tout_len]; exact hi16)⟩
                      have q14 := HX.out.cell i old hold
                      have hX2 := HX.out.set_ i (UInt8.ofNat sv)
                      have hg2 := grown_set HG.out i (B (UInt8.ofNat sv))
                      have hv : B (UInt8.ofNat sv) = .int .u8 ((sv : Int) % 256) := by simp only [B, UInt8.toNat_ofNat']; congr 1
                      rw [hset, hv] at hX2
                      rw [hv] at hg2
                      have hdv : ((tcar V ks (i + 1) : Nat) : Int) = (sv : Int) / 256 := by rw [htn]; omega
                      have HX2 := Lib.hid hX2
                      have HG2 := Lib.hid hg2
                      have Hdv := Lib.hid hdv
                      clear hy hyk hbv hm hset htn hsv hold hX2 hg2 hv hdv HX HG HL24
                      go_wp2
                      go_roundw
                      case rel => exact ⟨i + 1, by omega, by rw [Hdv.out], by go_num, HX2.out, HG2.out⟩
                      case measure => simp [intOf]; omega
                · obtain rfl : i = 16 := by omega
                  rw [show ((16 : Nat) : Int) = 16 from rfl]
                  rw [Htd.h] at hX
                  have rX := hX.rng
                  have hdl := hD.len
                  have h16 : (Tryd.prog.info? 92).map (·.size) = some (d.map B).length := by rw [List.length_map, hdl]; exact i16
                  have H16 := Lib.hid h16
                  have hi2 := Lib.hid (show (Tryd.prog.info? 92).map (·.size) = some (d.map B).toArray.size by rw [List.size_toArray]; exact h16)
                  have hO24 := HO23.out.grown hg (by simp; omega)
                  have HB24 := Lib.hid (HB23.out.grown hg HB23.out.size (fun k hk => by cases hk; omega))
                  clear hX hg h16
                  go_wp2_with (first
                    | (refine wpList_load_mid rfl _ _ rfl _ _ rfl (d.map B) _ rX Tryd.underlying92 rfl H16.out ?_)
                    | (refine L_storeAB rfl _ _ _ rfl rfl rfl hO24 i16 (by simp [z16]) hdl ?_; intro w9 hO9 hg9))
                  refine bodyPost_ret_by (results_cell_row rfl _ _ _ _ _ _ _ rfl hO9 Tryd.underlying92 rfl hi2.out) rfl ⟨rfl, ?_⟩
                  exact HB24.out.grown hg9 HB24.out.size (fun k hk => by cases hk; omega)
end Go.Proofs.YtlncnjcbgfeaoaaDoor

/- salt.mix: bytes, and the stream. -/
set_option maxRecDepth 100000
set_option linter.unusedVariables false
namespace Go.Proofs.YtlncnjcbgfeaoaaDoor
open Go.RowKit
/-- the first j bytes turned by the stream -/
def mixJ (p s : List UInt8) (j : Nat) : List UInt8 := (List.range p.length).map fun i => if i < j then p.getD i 0 ^^^ s.getD i 0 else p.getD i 0
theorem mixJ_len (p s : List UInt8) (j : Nat) : (mixJ p s j).length = p.length := by simp [mixJ]
theorem mixJ_get (p s : List UInt8) (j i : Nat) (hi : i < p.length) : (mixJ p s j)[i]? = some (if i < j then p.getD i 0 ^^^ s.getD i 0 else p.getD i 0) := by
  unfold mixJ; rw [List.getElem?_map, List.getElem?_range hi]; rfl
theorem mixJ_zero (p s : List UInt8) : mixJ p s 0 = p := by
  apply List.ext_getElem?
  intro i
  rcases Nat.lt_or_ge i p.length with hi | hi
  · rw [mixJ_get _ _ _ _ hi, if_neg (by omega), List.getD_eq_getElem?_getD, List.getElem?_eq_getElem hi]; rfl
  · rw [List.getElem?_eq_none (by rw [mixJ_len]; exact hi), List.getElem?_eq_none hi]
theorem mixJ_set (p s : List UInt8) (j : Nat) (hj : j < p.length) : (mixJ p s j).set j (p.getD j 0 ^^^ s.getD j 0) = mixJ p s (j + 1) := by
  apply List.ext_getElem?
  intro i
  rcases Nat.lt_or_ge i p.length with hi | hi
  · by_cases h : i = j
    · subst h; rw [List.getElem?_set_self (by rw [mixJ_len]; exact hi), mixJ_get _ _ _ _ hi, if_pos (by omega)]
    · rw [List.getElem?_set_ne (fun e => h e.symm), mixJ_get _ _ _ _ hi, mixJ_get _ _ _ _ hi]
      by_cases h2 : i < j
      · rw [if_pos h2, if_pos (by omega)]
      · rw [if_neg h2, if_neg (by omega)]
  · rw [List.getElem?_eq_none (by rw [List.length_set, mixJ_len]; exact hi), List.getElem?_eq_none (by rw [mixJ_len]; exact hi)]
theorem mixJ_sat (p s : List UInt8) (j k : Nat) (h : j = k ∨ (p.length ≤ j ∧ p.length ≤ k)) : mixJ p s j = mixJ p s k := by
  rcases h with rfl | ⟨h1, h2⟩
  · rfl
  · unfold mixJ
    apply List.map_congr_left
    intro i hi
    have := List.mem_range.1 hi
    rw [if_pos (by omega), if_pos (by omega)]
/-- bytes, and the stream from its second block on -/
def mixS (key nonce p : List UInt8) : List UInt8 := mixJ p (strS key nonce 1 ((p.length + 63) / 64)) p.length
theorem strS_take (key nonce : List UInt8) (fr k : Nat) : ∀ N : Nat, k ≤ N → (strS key nonce fr N).take (64 * k) = strS key nonce fr k := by
  intro N
  induction N with
  | zero =>
    intro h
    obtain rfl : k = 0 := by omega
    rfl
  | succ N ih =>
    intro h
    rcases Nat.lt_or_ge N k with h2 | h2
    · obtain rfl : k = N + 1 := by omega
      rw [List.take_of_length_le (by rw [strS_len]; omega)]
    · rw [strS, List.take_append_of_le_length (by rw [strS_len]; omega)]
      exact ih h2
/-- a byte of the stream is one of its block's -/
theorem strS_get (key nonce : List UInt8) (fr N k i : Nat) (hk : k < N) (hi : i < 64) : (strS key nonce fr N)[64 * k + i]? = (blkS key nonce ((fr + k) % 4294967296))[i]? := by
  have h := strS_take key nonce fr (k + 1) N (by omega)
  have h2 : (strS key nonce fr N)[64 * k + i]? = (strS key nonce fr (k + 1))[64 * k + i]? := by
    rw [← h, List.getElem?_take, if_pos (by omega)]
  rw [h2, strS, List.getElem?_append_right (by rw [strS_len]; omega), strS_len]
  congr 1; omega
structure MX (key nonce p d : List UInt8) : Prop where
  h : mixS key nonce p = d
  len : d.length = p.length
theorem MX_ex (key nonce p : List UInt8) : ∃ d, MX key nonce p d := ⟨_, rfl, mixJ_len _ _ _⟩
set_option maxHeartbeats 4000000 in
theorem mix_any (w : World) {a : Option Addr} {n c : Nat} {key nonce p d : List UInt8} (hkl : key.length = 32) (hnl : nonce.length = 12) (hp : BS w a n c p) (hn : n ≤ 1099511627776) (hD : MX key nonce p d) :
    Calls Tryd.prog 56 #[.agg (key.map B).toArray, .agg (nonce.map B).toArray, .slice a n c] w fun e w' => ∃ a' c', e = .returned (.slice a' n c') ∧ OW w' w.heap.size 5 1 a' n c' (d.map B) ∧ Below w.heap.size w w' := by
  have hz1 : (w.alloc (.cells (key.map B).toArray 22)).heap.size = w.heap.size + 1 := by simp
  have hA := (AB_box w 22 key).al (.cells (nonce.map B).toArray 31)
  have hM := AB_box (w.alloc (.cells (key.map B).toArray 22)) 31 nonce
  have hb : Below w.heap.size w _ := (below_alloc w (.cells (key.map B).toArray 22)).alloc (by simp) (.cells (nonce.map B).toArray 31)
  have hp1 := (RS.alloc hp (.cells (key.map B).toArray 22)).alloc (.cells (nonce.map B).toArray 31)
  rw [hz1] at hM
  have hpl := BS.len hp
  have hi32 := Lib.hid (show (Tryd.prog.info? 22).map (·.size) = some (key.map B).length by rw [List.length_map, hkl]; kernel_rfl)
  have hi12 := Lib.hid (show (Tryd.prog.info? 31).map (·.size) = some (nonce.map B).length by rw [List.length_map, hnl]; kernel_rfl)
  obtain ⟨N, hN⟩ : ∃ N, (p.length + 63) / 64 = N := ⟨_, rfl⟩
  have hres := hD.h
  unfold mixS at hres
  rw [hN] at hres
  have hsg := fun k i (hk : k < N) (hi : i < 64) => strS_get key nonce 1 N k i hk hi
  obtain ⟨S, hS⟩ : ∃ S, strS key nonce 1 N = S := ⟨_, rfl⟩
  simp only [hS] at hsg
  rw [hS] at hres
  have Hsg := Lib.hid hsg
  have Hres := EB.mk hres
  clear hz1 hS hres hsg
  go_enter Tryd.func56, Tryd.ntmps56
  go_upto_region 1 with (fail)
  generalize (World.alloc _ _) = W1 at *
  have l0 := hA.lt
  have l1 := hM.lt
  have hbs := hb.size
  go_upto_region 2 with (go_at_call 38; refine (clone_any _ hp1 (by omega)).mono ?_; rintro e w2 ⟨a2, c2, rfl, o2, B2⟩)
  have hA2 := hA.bl B2 l0
  have hM2 := hM.bl B2 l1
  have hb2 := hb.trans (B2.mono hbs)
  have z2 := B2.size
  have HA2 := Lib.hid hA2
  have HM2 := Lib.hid hM2
  have HB2 := Lib.hid hb2
  have ho2 : OW w2 W1.heap.size 5 1 a2 n c2 ((mixJ p S (64 * 0)).map B) := by rw [mixJ_zero]; exact o2
  clear hA hM hb hp1 hA2 hM2 hb2 o2 B2
  go_wp2
  go_loopw [8] (fun s8 wr => ∃ k : Nat, 64 * k < n + 64 ∧ s8 = .int .i64 ((64 * k : Nat) : Int) ∧ OW wr W1.heap.size 5 1 a2 n c2 ((mixJ p S (64 * k)).map B) ∧ w2.grownBy wr (a2.map (·.block))) (fun s8 _ => n + 64 - (intOf s8).toNat)
  case atStart => exact ⟨0, by omega, rfl, ho2, World.grownBy.refl w2 _⟩
  case round =>
    obtain ⟨k, hk, rfl, ho, hg⟩ := hrel
    clear ho2
    obtain ⟨m, hm⟩ : ∃ m, 64 * k = m := ⟨_, rfl⟩
    rw [hm] at ho ⊢
    have hmk : (m : Int) / 64 = (k : Int) := by omega
    have hlo := ho.rs.le
    by_cases hlt : m < n
    · obtain ⟨g, rfl, lg1, lg2⟩ : ∃ g, a2 = some ⟨g, 0, none⟩ ∧ W1.heap.size ≤ g ∧ g < wr.heap.size := by
        rcases ho.shape with ⟨_, h, _⟩ | ⟨g, cur, h1, h2, h3, _⟩
        · omega
        · exact ⟨g, h1, h2, h3⟩
      obtain ⟨q, hq⟩ : ∃ q, (1 + k) % 4294967296 = q := ⟨_, rfl⟩
      have hq32 : q < 4294967296 := by omega
      have hqi : (1 + (k : Int)) % 4294967296 = (q : Int) := by omega
      obtain ⟨b, hbk⟩ := ST_ex key nonce q
      have hbl := hbk.len
      have hbS : ∀ j, j < 64 → S[m + j]? = b[j]? := fun j hj => by
        rw [← hm, Hsg.out k j (by omega) hj, hq]
        show (outC _ _ 16)[j]? = _
        rw [hbk.h]
      have HbS := Lib.hid hbS
      have hg1 : w2.grownBy wr (some g) := hg
      have hA3 := HA2.out.grown hg1 (by simp; omega)
      have hM3 := HM2.out.grown hg1 (by simp; omega)
      have rA := hA3.rng
      have rM := hM3.rng
      have Hst := Lib.hid (stir_any wr hkl hnl q hq32 hbk)
      have HO := Lib.hid ho
      have HG := Lib.hid hg1
      have Hmk := Lib.hid hm
      clear hq hbk hbS hg hg1 hA3 hM3 ho hm
      go_upto_region 6 with (first
        | (refine wpList_load_mid rfl _ _ rfl _ _ rfl (key.map B) _ rA Tryd.underlying22 rfl hi32.out ?_)
        | (refine wpList_load_mid rfl _ _ rfl _ _ rfl (nonce.map B) _ rM Tryd.underlying31 rfl hi12.out ?_)
        | (go_at_call 73; refine Hst.out.mono ?_; rintro e w3 ⟨rfl, B3⟩)
        | (refine L_storeAB rfl _ _ _ rfl rfl rfl (show AB (w3.alloc _) w3.heap.size 117 (List.replicate 64 0) from heap_alloc_new w3 _) i64B (by simp) hbl ?_; intro w4 hb4 hg4))
      have z3 := B3.size
      have b4 : Below wr.heap.size wr w4 := (B3.alloc z3 _).grown hg4 (by simp; omega) (fun k hk => by cases hk; exact z3)
      have o4 := HO.out.below b4 (Nat.le_refl _)
      have g4 : w2.grownBy w4 (some g) := ⟨b4.os.trans HG.out.os, b4.tape.trans HG.out.tape, b4.output.trans HG.out.output, Nat.le_trans HG.out.size b4.size, fun k hk hne => (b4.block k (Nat.lt_of_lt_of_le hk HG.out.size)).trans (HG.out.block k hk hne)⟩
      obtain ⟨gb, hgb⟩ : ∃ gb, w3.heap.size = gb := ⟨_, rfl⟩
      rw [hgb] at hb4 ⊢
      have lgb : g < gb := by omega
      have HB4 := Lib.hid hb4
      have HG4 := Lib.hid g4
      have ho4 : OW w4 W1.heap.size 5 1 (some ⟨g, 0, none⟩) n c2 ((mixJ p S (m + 0)).map B) := o4
      clear b4 hg4 o4 g4 hgb B3 Hst HO HG rA rM hb4
      obtain ⟨t, ht⟩ : ∃ t, n - m = t := ⟨_, rfl⟩
      have hti : (n : Int) - (m : Int) = (t : Int) := by omega
      rcases Nat.lt_or_ge t 64 with h64 | h64
      · go_wp2
        go_loopw [31] (fun s31 wr => ∃ j : Nat, j ≤ t ∧ s31 = .int .i64 (j : Int) ∧ OW wr W1.heap.size 5 1 (some ⟨g, 0, none⟩) n c2 ((mixJ p S (m + j)).map B) ∧ w4.grownBy wr (some g)) (fun s31 _ => t - (intOf s31).toNat)
        case atStart => exact ⟨0, by omega, rfl, ho4, World.grownBy.refl w4 _⟩
        case round =>
          obtain ⟨j, hj, rfl, hO5, hG5⟩ := hrel
          clear ho4
          by_cases hjt : j < t
          · obtain ⟨u, hu⟩ : ∃ u, m + j = u := ⟨_, rfl⟩
            have hui : (m : Int) + (j : Int) = (u : Int) := by omega
            have hun : u < n := by omega
            rw [hu] at hO5
            obtain ⟨x, hx⟩ : ∃ x, p.getD u 0 = x := ⟨_, rfl⟩
            obtain ⟨y, hy⟩ : ∃ y, b[j]? = some y := ⟨_, List.getElem?_eq_getElem (by omega)⟩
            have hSy : S.getD u 0 = y := by rw [List.getD_eq_getElem?_getD, ← hu, HbS.out j (by omega), hy]; rfl
            have hget := mixJ_get p S u u (by omega)
            have hset := mixJ_set p S u (by omega)
            rw [if_neg (by omega), hx] at hget
            rw [hx, hSy] at hset
            have hxl := x.toNat_lt
            have hyl := y.toNat_lt
            have q0 : wr.cell? ⟨g, u, none⟩ = some (.int .u8 (x.toNat : Int)) := hO5.cell u (B x) (by rw [List.getElem?_map, hget]; rfl)
            have f0 := hO5.frozen u
            have q1 : wr.cell? ⟨gb, j, none⟩ = some (.int .u8 (y.toNat : Int)) := (HB4.out.grown hG5 (by simp; omega)).cell j y hy
            have hxor := u8_xor_nat x.toNat y.toNat hxl hyl
            have hv : B (x ^^^ y) = .int .u8 ((x.toNat ^^^ y.toNat : Nat) : Int) := by simp [B]
            have hO6 := hO5.setCell u (B (x ^^^ y)) rfl
            rw [← List.map_set, hset, hv] at hO6
            have hG6 := grown_set hG5 u (B (x ^^^ y))
            rw [hv] at hG6
            have HO6 := Lib.hid (OW.drew hO6)
            have HG6 := Lib.hid (grown_drew hG6)
            obtain ⟨z, hz⟩ : ∃ z, x.toNat ^^^ y.toNat = z := ⟨_, rfl⟩
            rw [hz] at hxor HO6 HG6
            have Hu := Lib.hid hu
            clear hu hx hy hSy hget hset hO5 hG5 hv hO6 hG6 hz
            go_upto_region 9 with (fail)
            go_region
            clear q0 q1 f0 hxor
            generalize World.drew _ = W7 at *
            go_wp2
            go_roundw
            case rel => exact ⟨j + 1, by omega, by go_num, by rw [show m + (j + 1) = u + 1 by have := Hu.out; omega]; exact HO6.out, HG6.out⟩
            case measure => simp [intOf]; omega
          · have hje : j = t := by omega
            rw [hje] at hO5 ⊢
            clear hje
            try rw [show ((64 : Nat) : Int) = 64 from rfl]
            rw [mixJ_sat p S (m + t) (64 * (k + 1)) (by have := Hmk.out; omega)] at hO5
            have HO5 := Lib.hid hO5
            have HG6 := Lib.hid (grown_trans HG4.out hG5)
            clear hO5 hG5
            go_wp2
            go_roundw
            case rel => exact ⟨k + 1, by have := Hmk.out; omega, by have := Hmk.out; go_num, HO5.out, HG6.out⟩
            case measure => have := Hmk.out; simp [intOf]; omega
      · go_wp2
        go_loopw [31] (fun s31 wr => ∃ j : Nat, j ≤ 64 ∧ s31 = .int .i64 (j : Int) ∧ OW wr W1.heap.size 5 1 (some ⟨g, 0, none⟩) n c2 ((mixJ p S (m + j)).map B) ∧ w4.grownBy wr (some g)) (fun s31 _ => 64 - (intOf s31).toNat)
        case atStart => exact ⟨0, by omega, rfl, ho4, World.grownBy.refl w4 _⟩
        case round =>
          obtain ⟨j, hj, rfl, hO5, hG5⟩ := hrel
          clear ho4
          by_cases hjt : j < 64
          · obtain ⟨u, hu⟩ : ∃ u, m + j = u := ⟨_, rfl⟩
            have hui : (m : Int) + (j : Int) = (u : Int) := by omega
            have hun : u < n := by omega
            rw [hu] at hO5
            obtain ⟨x, hx⟩ : ∃ x, p.getD u 0 = x := ⟨_, rfl⟩
            obtain ⟨y, hy⟩ : ∃ y, b[j]? = some y := ⟨_, List.getElem?_eq_getElem (by omega)⟩
            have hSy : S.getD u 0 = y := by rw [List.getD_eq_getElem?_getD, ← hu, HbS.out j (by omega), hy]; rfl
            have hget := mixJ_get p S u u (by omega)
            have hset := mixJ_set p S u (by omega)
            rw [if_neg (by omega), hx] at hget
            rw [hx, hSy] at hset
            have hxl := x.toNat_lt
            have hyl := y.toNat_lt
            have q0 : wr.cell? ⟨g, u, none⟩ = some (.int .u8 (x.toNat : Int)) := hO5.cell u (B x) (by rw [List.getElem?_map, hget]; rfl)
            have f0 := hO5.frozen u
            have q1 : wr.cell? ⟨gb, j, none⟩ = some (.int .u8 (y.toNat : Int)) := (HB4.out.grown hG5 (by simp; omega)).cell j y hy
            have hxor := u8_xor_nat x.toNat y.toNat hxl hyl
            have hv : B (x ^^^ y) = .int .u8 ((x.toNat ^^^ y.toNat : Nat) : Int) := by simp [B]
            have hO6 := hO5.setCell u (B (x ^^^ y)) rfl
            rw [← List.map_set, hset, hv] at hO6
            have hG6 := grown_set hG5 u (B (x ^^^ y))
            rw [hv] at hG6
            have HO6 := Lib.hid (OW.drew hO6)
            have HG6 := Lib.hid (grown_drew hG6)
            obtain ⟨z, hz⟩ : ∃ z, x.toNat ^^^ y.toNat = z := ⟨_, rfl⟩
            rw [hz] at hxor HO6 HG6
            have Hu := Lib.hid hu
            clear hu hx hy hSy hget hset hO5 hG5 hv hO6 hG6 hz
            go_upto_region 9 with (fail)
            go_region
            clear q0 q1 f0 hxor
            generalize World.drew _ = W7 at *
            go_wp2
            go_roundw
            case rel => exact ⟨j + 1, by omega, by go_num, by rw [show m + (j + 1) = u + 1 by have := Hu.out; omega]; exact HO6.out, HG6.out⟩
            case measure => simp [intOf]; omega
          · have hje : j = 64 := by omega
            rw [hje] at hO5 ⊢
            clear hje
            try rw [show ((64 : Nat) : Int) = 64 from rfl]
            rw [mixJ_sat p S (m + 64) (64 * (k + 1)) (by have := Hmk.out; omega)] at hO5
            have HO5 := Lib.hid hO5
            have HG6 := Lib.hid (grown_trans HG4.out hG5)
            clear hO5 hG5
            go_wp2
            go_roundw
            case rel => exact ⟨k + 1, by have := Hmk.out; omega, by have := Hmk.out; go_num, HO5.out, HG6.out⟩
            case measure => have := Hmk.out; simp [intOf]; omega
    · have hd : mixJ p S n = d := by rw [← hpl]; exact Hres.h
      rw [mixJ_sat p S m n (by omega), hd] at ho
      clear hd
      have HO := Lib.hid ho
      have hb9 := HB2.out.grown hg HB2.out.size (row_le (fun ad ha => Nat.le_trans hbs (ho.base_le ha).1) (Nat.le_refl _))
      have HB := Lib.hid hb9
      clear ho hg hb9
      go_wp2
      go_ret
      exact ⟨a2, c2, rfl, HO.out.mono hbs, HB.out⟩
end Go.Proofs.YtlncnjcbgfeaoaaDoor

/- Packets, in plain Lean: what is read of a head; numbers. -/
namespace Go.Proofs.YtlncnjcbgfeaoaaDoor
theorem readN_long (p : List UInt8) (lv : Int) (i1 i2 r : List UInt8) (h : (readN p lv i1 i2 r).1 = 0) : (readN p lv i1 i2 r).2.1.long = true := by
  unfold readN at h ⊢
  split
  · next hq => rw [hq] at h; exact absurd h (by show ¬ (2 : Int) = 0; decide)
  · next v r5 hq =>
    rw [hq] at h
    dsimp only at h ⊢
    split
    · next h2 => rw [if_pos h2] at h; exact absurd h (by decide)
    · rfl
theorem readT_long (p : List UInt8) (lv : Int) (i1 i2 r : List UInt8) (h : (readT p lv i1 i2 r).1 = 0) : (readT p lv i1 i2 r).2.1.long = true := by
  unfold readT at h ⊢
  split
  · next h1 =>
    rw [if_pos h1] at h
    split
    · next hq => rw [hq] at h; exact absurd h (by show ¬ (2 : Int) = 0; decide)
    · next v r4 hq =>
      rw [hq] at h
      dsimp only at h ⊢
      split
      · next h2 => rw [if_pos h2] at h; exact absurd h (by decide)
      · next h2 => rw [if_neg h2] at h; exact readN_long _ _ _ _ _ h
  · next h1 => rw [if_neg h1] at h; exact readN_long _ _ _ _ _ h
theorem readL_isLong (p : List UInt8) (lv : Int) (h : (readL p lv).1 = 0) : (readL p lv).2.1.long = true := by
  unfold readL at h ⊢
  by_cases h1 : p.length < 5
  · rw [if_pos h1] at h; exact absurd h (by decide)
  · rw [if_neg h1] at h ⊢
    by_cases h2 : (p.drop 1).take 4 ≠ [0, 0, 0, 1]
    · rw [if_pos h2] at h; exact absurd h (by decide)
    · rw [if_neg h2] at h ⊢
      by_cases h3 : (idS (p.drop 5)).1 ≠ 0
      · rw [if_pos h3] at h; exact absurd h h3
      · rw [if_neg h3] at h ⊢
        by_cases h4 : (idS (p.drop (5 + 1 + (idS (p.drop 5)).2.length))).1 ≠ 0
        · rw [if_pos h4] at h; exact absurd h h4
        · rw [if_neg h4] at h ⊢
          exact readT_long _ _ _ _ _ h
theorem readP_isLong (b : UInt8) (r : List UInt8) (h : (readP (b :: r)).1 = 0) : (readP (b :: r)).2.1.long = decide (128 ≤ b.toNat) := by
  unfold readP at h ⊢
  dsimp only at h ⊢
  by_cases h1 : b.toNat / 64 % 2 = 0
  · rw [if_pos h1] at h; exact absurd h (by decide)
  · rw [if_neg h1] at h ⊢
    by_cases h2 : b.toNat < 128
    · rw [if_pos h2] at h ⊢
      by_cases h3 : (b :: r).length < 9
      · rw [if_pos h3] at h; exact absurd h (by decide)
      · rw [if_neg h3]; symm; exact decide_eq_false (by omega)
    · rw [if_neg h2] at h ⊢
      rw [show decide (128 ≤ b.toNat) = true from decide_eq_true (by omega)]
      by_cases h3 : b.toNat / 16 % 4 = 0
      · rw [if_pos h3] at h ⊢; exact readL_isLong _ _ h
      · rw [if_neg h3] at h ⊢
        by_cases h4 : b.toNat / 16 % 4 = 2
        · rw [if_pos h4] at h ⊢; exact readL_isLong _ _ h
        · rw [if_neg h4] at h; exact absurd h (by decide)
theorem readS_ok {p : List UInt8} {hd : Hd} {a e : Nat} (h : readS p = (0, hd, a, e)) : a + 20 ≤ e ∧ e ≤ p.length ∧ ∃ b r, p = b :: r ∧ hd.long = decide (128 ≤ b.toNat) := by
  unfold readS at h
  by_cases h1 : (readP p).1 ≠ 0
  · rw [if_pos h1] at h; exact absurd (congrArg Prod.fst h) h1
  · rw [if_neg h1] at h
    by_cases h2 : (readP p).2.2.2 < (readP p).2.2.1 + 20
    · rw [if_pos h2] at h; exact absurd (congrArg Prod.fst h) (by show ¬ (4 : Int) = 0; decide)
    · rw [if_neg h2] at h
      have hb := readP_bd p (Classical.not_not.1 h1)
      have h3 := Classical.not_not.1 h1
      cases p with
      | nil => exact absurd h3 (by decide)
      | cons b r =>
        have hl := readP_isLong b r h3
        rw [h] at hb hl h2
        dsimp only at hb hl h2
        exact ⟨by omega, hb.2, b, r, rfl, hl⟩
theorem readS_not {p : List UInt8} {e1 : Int} {hd : Hd} {a e : Nat} (h : readS p = (e1, hd, a, e)) (h0 : e1 ≠ 0) : hd = hd0 ∧ a = 0 ∧ e = 0 := by
  unfold readS at h
  by_cases h1 : (readP p).1 ≠ 0
  · rw [if_pos h1] at h; cases h; exact ⟨rfl, rfl, rfl⟩
  · rw [if_neg h1] at h
    by_cases h2 : (readP p).2.2.2 < (readP p).2.2.1 + 20
    · rw [if_pos h2] at h; cases h; exact ⟨rfl, rfl, rfl⟩
    · rw [if_neg h2] at h
      rw [h] at h1; exact absurd h0 h1
/-- the number that is meant -/
def growN (next cut win : Nat) : Nat :=
  if next - next % win + cut % win + win / 2 ≤ next ∧ next - next % win + cut % win < 4611686018427387904 - win then next - next % win + cut % win + win
  else if next + win / 2 < next - next % win + cut % win ∧ win ≤ next - next % win + cut % win then next - next % win + cut % win - win
  else min (next - next % win + cut % win) 4611686018427387903
def nextN (largest : Nat) (some : Bool) : Nat := if some then min largest 4611686018427387903 + 1 else 0
def growF (largest : Nat) (some : Bool) (cut size : Nat) : Nat := growN (nextN largest some) cut (256 ^ size)
theorem nextN_le (largest : Nat) (some : Bool) : nextN largest some ≤ 4611686018427387904 := by unfold nextN; split <;> omega
theorem growN_lt (next cut win : Nat) (h0 : 0 < win) (h1 : next ≤ 4611686018427387904) (hw : win ≤ 4294967296) : growN next cut win < 4611686018427387904 := by
  unfold growN
  have := Nat.mod_lt next h0
  have := Nat.mod_lt cut h0
  have := Nat.mod_le next win
  split
  · omega
  · split
    · omega
    · omega
structure GR (largest : Nat) (some : Bool) (cut size pn : Nat) : Prop where
  h : growF largest some cut size = pn
  lt : pn < 4611686018427387904
theorem GR_ex (largest : Nat) (some : Bool) (cut size : Nat) (h4 : size ≤ 4) : ∃ pn, GR largest some cut size pn := by
  refine ⟨_, rfl, growN_lt _ _ _ (Nat.pow_pos (by decide)) (nextN_le _ _) ?_⟩
  have : 256 ^ size ≤ 256 ^ 4 := Nat.pow_le_pow_right (by decide) h4
  exact this
end Go.Proofs.YtlncnjcbgfeaoaaDoor

/- head.Grow, the reference's Grow. -/
set_option maxRecDepth 100000
set_option linter.unusedVariables false
namespace Go.Proofs.YtlncnjcbgfeaoaaDoor
open Go.RowKit
theorem nat_cutjoin (i a b : Nat) (hi : i ≤ 64) (ha : a < 2 ^ 64) : (a &&& (2 ^ 64 - 1 - (2 ^ i - 1))) ||| (b &&& (2 ^ i - 1)) = a - a % 2 ^ i + b % 2 ^ i := by
  have hp : 0 < 2 ^ i := Nat.two_pow_pos i
  have h1 : a &&& (2 ^ 64 - 1 - (2 ^ i - 1)) = a / 2 ^ i * 2 ^ i := by
    apply Nat.eq_of_testBit_eq
    intro j
    rw [Nat.testBit_and, Nat.testBit_mul_two_pow, Nat.testBit_div_two_pow]
    rw [show 2 ^ 64 - 1 - (2 ^ i - 1) = 2 ^ 64 - ((2 ^ i - 1) + 1) by omega, Nat.testBit_two_pow_sub_succ (by have := Nat.pow_le_pow_right (n := 2) (by omega) hi; omega), Nat.testBit_two_pow_sub_one]
    by_cases hj : j < i
    · simp [hj]; omega
    · have e2 : j - i + i = j := by omega
      by_cases hj2 : j < 64
      · simp [hj, hj2, e2]; omega
      · have : a.testBit j = false := Nat.testBit_lt_two_pow (Nat.lt_of_lt_of_le ha (Nat.pow_le_pow_right (by omega) (by omega)))
        simp [e2, this]
  rw [h1, Nat.and_two_pow_sub_one_eq_mod, nat_join i _ _ (by simp) (Nat.mod_lt _ hp)]
  have := Nat.div_add_mod a (2 ^ i)
  rw [Nat.mul_comm] at this
  omega
theorem cutjoin (i : Nat) (m : Int) (hm : m = ((2 ^ i - 1 : Nat) : Int)) (hi : i ≤ 32) (a b : Int) (h0 : 0 ≤ a) (h1 : a < 18446744073709551616) (h2 : 0 ≤ b) (h3 : b < 18446744073709551616) :
    bits .or .u64 (bits .andNot .u64 a m) (bits .and .u64 b m) = a - a % (m + 1) + b % (m + 1) := by
  subst hm
  have hp : 2 ^ i ≤ 2 ^ 32 := Nat.pow_le_pow_right (by omega) hi
  have hq : 0 < 2 ^ i := Nat.two_pow_pos i
  obtain ⟨a, rfl⟩ := Int.eq_ofNat_of_zero_le h0
  obtain ⟨b, rfl⟩ := Int.eq_ofNat_of_zero_le h2
  rw [u64_andNot_nat _ _ (by omega) (by omega), u64_and_nat _ _ (by omega) (by omega),
    u64_or_nat _ _ (Nat.lt_of_le_of_lt Nat.and_le_left (by omega)) (Nat.lt_of_le_of_lt Nat.and_le_left (by omega))]
  have h := nat_cutjoin i a b (by omega) (by omega)
  have e : 18446744073709551615 - (2 ^ i - 1) = 2 ^ 64 - 1 - (2 ^ i - 1) := by omega
  rw [e, h]
  have e2 : (((2 ^ i - 1 : Nat) : Int) + 1) = ((2 ^ i : Nat) : Int) := by omega
  rw [e2]
  have := Nat.mod_le a (2 ^ i)
  omega
theorem ret_int {k : IntKind} {a b : Int} (h : a = b) : Ending.returned (.int k a) = .returned (.int k b) := by rw [h]
def growS (next cut win : Int) : Int :=
  if next - next % win + cut % win + win / 2 ≤ next ∧ next - next % win + cut % win < 4611686018427387904 - win then next - next % win + cut % win + win
  else if next + win / 2 < next - next % win + cut % win ∧ win ≤ next - next % win + cut % win then next - next % win + cut % win - win
  else min (next - next % win + cut % win) 4611686018427387903
theorem growS_nat (next cut win : Nat) (hw : win = 256 ∨ win = 65536 ∨ win = 16777216 ∨ win = 4294967296) : growS (next : Int) (cut : Int) (win : Int) = ((growN next cut win : Nat) : Int) := by
  unfold growS growN
  obtain ⟨n, hn⟩ : ∃ n, next - next % win + cut % win = n := ⟨_, rfl⟩
  have hi : (next : Int) - (next : Int) % (win : Int) + (cut : Int) % (win : Int) = (n : Int) := by
    rcases hw with rfl | rfl | rfl | rfl <;> omega
  rw [hi, hn]
  have hh : (win : Int) / 2 = ((win / 2 : Nat) : Int) := by omega
  rw [hh]
  have hwin : win ≤ 4294967296 := by omega
  clear hw hi hn hh
  by_cases c1 : n + win / 2 ≤ next ∧ n < 4611686018427387904 - win
  · rw [if_pos (by omega), if_pos c1]; omega
  · rw [if_neg (by omega), if_neg c1]
    by_cases c2 : next + win / 2 < n ∧ win ≤ n
    · rw [if_pos (by omega), if_pos c2]; omega
    · rw [if_neg (by omega), if_neg c2]; omega
theorem grow_1a (largest cut : Int) (w : World) (h0 : 0 ≤ largest) (h1 : largest < 4611686018427387904) (h2 : 0 ≤ cut) (h3 : cut < 18446744073709551616) :
    Calls Tryd.prog 33 #[.int .u64 largest, .bool true, .int .u64 cut, .int .i64 1] w fun e w' => e = .returned (.int .u64 (growS (largest + 1) cut 256)) ∧ w = w' := by
  unfold growS
  obtain ⟨n, hn⟩ : ∃ n, n = (largest + 1) - (largest + 1) % 256 + cut % 256 := ⟨_, rfl⟩
  have hb := cutjoin 8 255 rfl (by omega) (largest + 1) cut (by omega) (by omega) h2 h3
  rw [show (255 : Int) + 1 = 256 from rfl, ← hn] at hb
  rw [← hn, show (256 : Int) / 2 = 128 from rfl]
  have hn0 : 0 ≤ n := by omega
  have hn1 : n ≤ (largest + 1) + 256 := by omega
  clear hn
  by_cases c1 : n + 128 ≤ (largest + 1)
  · by_cases c2 : n < 4611686018427387904 - 256
    · rw [if_pos ⟨c1, c2⟩]
      go_enter Tryd.func33, Tryd.ntmps33
      go_wp2
      all_goals (go_ret; exact ⟨ret_int (by omega), rfl⟩)
    · rw [if_neg (by omega), if_neg (by omega)]
      go_enter Tryd.func33, Tryd.ntmps33
      go_wp2
      all_goals (go_ret; exact ⟨ret_int (by omega), rfl⟩)
  · rw [if_neg (by omega)]
    by_cases c2 : (largest + 1) + 128 < n
    · by_cases c3 : 256 ≤ n
      · rw [if_pos ⟨c2, c3⟩]
        go_enter Tryd.func33, Tryd.ntmps33
        go_wp2
        all_goals (go_ret; exact ⟨ret_int (by omega), rfl⟩)
      · rw [if_neg (by omega)]
        go_enter Tryd.func33, Tryd.ntmps33
        go_wp2
        all_goals (go_ret; exact ⟨ret_int (by omega), rfl⟩)
    · rw [if_neg (by omega)]
      go_enter Tryd.func33, Tryd.ntmps33
      go_wp2
      all_goals (go_ret; exact ⟨ret_int (by omega), rfl⟩)
theorem grow_1b (largest cut : Int) (w : World) (h0 : 4611686018427387904 ≤ largest) (h1 : largest < 18446744073709551616) (h2 : 0 ≤ cut) (h3 : cut < 18446744073709551616) :
    Calls Tryd.prog 33 #[.int .u64 largest, .bool true, .int .u64 cut, .int .i64 1] w fun e w' => e = .returned (.int .u64 (growS 4611686018427387904 cut 256)) ∧ w = w' := by
  unfold growS
  obtain ⟨n, hn⟩ : ∃ n, n = 4611686018427387904 - 4611686018427387904 % 256 + cut % 256 := ⟨_, rfl⟩
  have hb := cutjoin 8 255 rfl (by omega) 4611686018427387904 cut (by omega) (by omega) h2 h3
  rw [show (255 : Int) + 1 = 256 from rfl, ← hn] at hb
  rw [← hn, show (256 : Int) / 2 = 128 from rfl]
  have hn0 : 0 ≤ n := by omega
  have hn1 : n ≤ 4611686018427387904 + 256 := by omega
  clear hn
  by_cases c1 : n + 128 ≤ 4611686018427387904
  · by_cases c2 : n < 4611686018427387904 - 256
    · rw [if_pos ⟨c1, c2⟩]
      go_enter Tryd.func33, Tryd.ntmps33
      go_wp2
      all_goals (go_ret; exact ⟨ret_int (by omega), rfl⟩)
    · rw [if_neg (by omega), if_neg (by omega)]
      go_enter Tryd.func33, Tryd.ntmps33
      go_wp2
      all_goals (go_ret; exact ⟨ret_int (by omega), rfl⟩)
  · rw [if_neg (by omega)]
    by_cases c2 : 4611686018427387904 + 128 < n
    · by_cases c3 : 256 ≤ n
      · rw [if_pos ⟨c2, c3⟩]
        go_enter Tryd.func33, Tryd.ntmps33
        go_wp2
        all_goals (go_ret; exact ⟨ret_int (by omega), rfl⟩)
      · rw [if_neg (by omega)]
        go_enter Tryd.func33, Tryd.ntmps33
        go_wp2
        all_goals (go_ret; exact ⟨ret_int (by omega), rfl⟩)
    · rw [if_neg (by omega)]
      go_enter Tryd.func33, Tryd.ntmps33
      go_wp2
      all_goals (go_ret; exact ⟨ret_int (by omega), rfl⟩)
theorem grow_1c (largest cut : Int) (w : World) (h0 : 0 ≤ largest) (h1 : largest < 18446744073709551616) (h2 : 0 ≤ cut) (h3 : cut < 18446744073709551616) :
    Calls Tryd.prog 33 #[.int .u64 largest, .bool false, .int .u64 cut, .int .i64 1] w fun e w' => e = .returned (.int .u64 (growS 0 cut 256)) ∧ w = w' := by
  unfold growS
  obtain ⟨n, hn⟩ : ∃ n, n = 0 - 0 % 256 + cut % 256 := ⟨_, rfl⟩
  have hb := cutjoin 8 255 rfl (by omega) 0 cut (by omega) (by omega) h2 h3
  rw [show (255 : Int) + 1 = 256 from rfl, ← hn] at hb
  rw [← hn, show (256 : Int) / 2 = 128 from rfl]
  have hn0 : 0 ≤ n := by omega
  have hn1 : n ≤ 0 + 256 := by omega
  clear hn
  by_cases c1 : n + 128 ≤ 0
  · by_cases c2 : n < 4611686018427387904 - 256
    · rw [if_pos ⟨c1, c2⟩]
      go_enter Tryd.func33, Tryd.ntmps33
      go_wp2
      all_goals (go_ret; exact ⟨ret_int (by omega), rfl⟩)
    · rw [if_neg (by omega), if_neg (by omega)]
      go_enter Tryd.func33, Tryd.ntmps33
      go_wp2
      all_goals (go_ret; exact ⟨ret_int (by omega), rfl⟩)
  · rw [if_neg (by omega)]
    by_cases c2 : 0 + 128 < n
    · by_cases c3 : 256 ≤ n
      · rw [if_pos ⟨c2, c3⟩]
        go_enter Tryd.func33, Tryd.ntmps33
        go_wp2
        all_goals (go_ret; exact ⟨ret_int (by omega), rfl⟩)
      · rw [if_neg (by omega)]
        go_enter Tryd.func33, Tryd.ntmps33
        go_wp2
        all_goals (go_ret; exact ⟨ret_int (by omega), rfl⟩)
    · rw [if_neg (by omega)]
      go_enter Tryd.func33, Tryd.ntmps33
      go_wp2
      all_goals (go_ret; exact ⟨ret_int (by omega), rfl⟩)
theorem grow_2a (largest cut : Int) (w : World) (h0 : 0 ≤ largest) (h1 : largest < 4611686018427387904) (h2 : 0 ≤ cut) (h3 : cut < 18446744073709551616) :
    Calls Tryd.prog 33 #[.int .u64 largest, .bool true, .int .u64 cut, .int .i64 2] w fun e w' => e = .returned (.int .u64 (growS (largest + 1) cut 65536)) ∧ w = w' := by
  unfold growS
  obtain ⟨n, hn⟩ : ∃ n, n = (largest + 1) - (largest + 1) % 65536 + cut % 65536 := ⟨_, rfl⟩
  have hb := cutjoin 16 65535 rfl (by omega) (largest + 1) cut (by omega) (by omega) h2 h3
  rw [show (65535 : Int) + 1 = 65536 from rfl, ← hn] at hb
  rw [← hn, show (65536 : Int) / 2 = 32768 from rfl]
  have hn0 : 0 ≤ n := by omega
  have hn1 : n ≤ (largest + 1) + 65536 := by omega
  clear hn
  by_cases c1 : n + 32768 ≤ (largest + 1)
  · by_cases c2 : n < 4611686018427387904 - 65536
    · rw [if_pos ⟨c1, c2⟩]
      go_enter Tryd.func33, Tryd.ntmps33
      go_wp2
      all_goals (go_ret; exact ⟨ret_int (by omega), rfl⟩)
    · rw [if_neg (by omega), if_neg (by omega)]
      go_enter Tryd.func33, Tryd.ntmps33
      go_wp2
      all_goals (go_ret; exact ⟨ret_int (by omega), rfl⟩)
  · rw [if_neg (by omega)]
    by_cases c2 : (largest + 1) + 32768 < n
    · by_cases c3 : 65536 ≤ n
      · rw [if_pos ⟨c2, c3⟩]
        go_enter Tryd.func33, Tryd.ntmps33
        go_wp2
        all_goals (go_ret; exact ⟨ret_int (by omega), rfl⟩)
      · rw [if_neg (by omega)]
        go_enter Tryd.func33, Tryd.ntmps33
        go_wp2
        all_goals (go_ret; exact ⟨ret_int (by omega), rfl⟩)
    · rw [if_neg (by omega)]
      go_enter Tryd.func33, Tryd.ntmps33
      go_wp2
      all_goals (go_ret; exact ⟨ret_int (by omega), rfl⟩)
theorem grow_2b (largest cut : Int) (w : World) (h0 : 4611686018427387904 ≤ largest) (h1 : largest < 18446744073709551616) (h2 : 0 ≤ cut) (h3 : cut < 18446744073709551616) :
    Calls Tryd.prog 33 #[.int .u64 largest, .bool true, .int .u64 cut, .int .i64 2] w fun e w' => e = .returned (.int .u64 (growS 4611686018427387904 cut 65536)) ∧ w = w' := by
  unfold growS
  obtain ⟨n, hn⟩ : ∃ n, n = 4611686018427387904 - 4611686018427387904 % 65536 + cut % 65536 := ⟨_, rfl⟩
  have hb := cutjoin 16 65535 rfl (by omega) 4611686018427387904 cut (by omega) (by omega) h2 h3
  rw [show (65535 : Int) + 1 = 65536 from rfl, ← hn] at hb
  rw [← hn, show (65536 : Int) / 2 = 32768 from rfl]
  have hn0 : 0 ≤ n := by omega
  have hn1 : n ≤ 4611686018427387904 + 65536 := by omega
  clear hn
  by_cases c1 : n + 32768 ≤ 4611686018427387904
  · by_cases c2 : n < 4611686018427387904 - 65536
    · rw [if_pos ⟨c1, c2⟩]
      go_enter Tryd.func33, Tryd.ntmps33
      go_wp2
      all_goals (go_ret; exact ⟨ret_int (by omega), rfl⟩)
    · rw [if_neg (by omega), if_neg (by omega)]
      go_enter Tryd.func33, Tryd.ntmps33
      go_wp2
      all_goals (go_ret; exact ⟨ret_int (by omega), rfl⟩)
  · rw [if_neg (by omega)]
    by_cases c2 : 4611686018427387904 + 32768 < n
    · by_cases c3 : 65536 ≤ n
      · rw [if_pos ⟨c2, c3⟩]
        go_enter Tryd.func33, Tryd.ntmps33
        go_wp2
        all_goals (go_ret; exact ⟨ret_int (by omega), rfl⟩)
      · rw [if_neg (by omega)]
        go_enter Tryd.func33, Tryd.ntmps33
        go_wp2
        all_goals (go_ret; exact ⟨ret_int (by omega), rfl⟩)
    · rw [if_neg (by omega)]
      go_enter Tryd.func33, Tryd.ntmps33
      go_wp2
      all_goals (go_ret; exact ⟨ret_int (by omega), rfl⟩)
theorem grow_2c (largest cut : Int) (w : World) (h0 : 0 ≤ largest) (h1 : largest < 18446744073709551616) (h2 : 0 ≤ cut) (h3 : cut < 18446744073709551616) :
    Calls Tryd.prog 33 #[.int .u64 largest, .bool false, .int .u64 cut, .int .i64 2] w fun e w' => e = .returned (.int .u64 (growS 0 cut 65536)) ∧ w = w' := by
  unfold growS
  obtain ⟨n, hn⟩ : ∃ n, n = 0 - 0 % 65536 + cut % 65536 := ⟨_, rfl⟩
  have hb := cutjoin 16 65535 rfl (by omega) 0 cut (by omega) (by omega) h2 h3
  rw [show (65535 : Int) + 1 = 65536 from rfl, ← hn] at hb
  rw [← hn, show (65536 : Int) / 2 = 32768 from rfl]
  have hn0 : 0 ≤ n := by omega
  have hn1 : n ≤ 0 + 65536 := by omega
  clear hn
  by_cases c1 : n + 32768 ≤ 0
  · by_cases c2 : n < 4611686018427387904 - 65536
    · rw [if_pos ⟨c1, c2⟩]
      go_enter Tryd.func33, Tryd.ntmps33
      go_wp2
      all_goals (go_ret; exact ⟨ret_int (by omega), rfl⟩)
    · rw [if_neg (by omega), if_neg (by omega)]
      go_enter Tryd.func33, Tryd.ntmps33
      go_wp2
      all_goals (go_ret; exact ⟨ret_int (by omega), rfl⟩)
  · rw [if_neg (by omega)]
    by_cases c2 : 0 + 32768 < n
    · by_cases c3 : 65536 ≤ n
      · rw [if_pos ⟨c2, c3⟩]
        go_enter Tryd.func33, Tryd.ntmps33
        go_wp2
        all_goals (go_ret; exact ⟨ret_int (by omega), rfl⟩)
      · rw [if_neg (by omega)]
        go_enter Tryd.func33, Tryd.ntmps33
        go_wp2
        all_goals (go_ret; exact ⟨ret_int (by omega), rfl⟩)
    · rw [if_neg (by omega)]
      go_enter Tryd.func33, Tryd.ntmps33
      go_wp2
      all_goals (go_ret; exact ⟨ret_int (by omega), rfl⟩)
theorem grow_3a (largest cut : Int) (w : World) (h0 : 0 ≤ largest) (h1 : largest < 4611686018427387904) (h2 : 0 ≤ cut) (h3 : cut < 18446744073709551616) :
    Calls Tryd.prog 33 #[.int .u64 largest, .bool true, .int .u64 cut, .int .i64 3] w fun e w' => e = .returned (.int .u64 (growS (largest + 1) cut 16777216)) ∧ w = w' := by
  unfold growS
  obtain ⟨n, hn⟩ : ∃ n, n = (largest + 1) - (largest + 1) % 16777216 + cut % 16777216 := ⟨_, rfl⟩
  have hb := cutjoin 24 16777215 rfl (by omega) (largest + 1) cut (by omega) (by omega) h2 h3
  rw [show (16777215 : Int) + 1 = 16777216 from rfl, ← hn] at hb
  rw [← hn, show (16777216 : Int) / 2 = 8388608 from rfl]
  have hn0 : 0 ≤ n := by omega
  have hn1 : n ≤ (largest + 1) + 16777216 := by omega
  clear hn
  by_cases c1 : n + 8388608 ≤ (largest + 1)
  · by_cases c2 : n < 4611686018427387904 - 16777216
    · rw [if_pos ⟨c1, c2⟩]
      go_enter Tryd.func33, Tryd.ntmps33
      go_wp2
      all_goals (go_ret; exact ⟨ret_int (by omega), rfl⟩)
    · rw [if_neg (by omega), if_neg (by omega)]
      go_enter Tryd.func33, Tryd.ntmps33
      go_wp2
      all_goals (go_ret; exact ⟨ret_int (by omega), rfl⟩)
  · rw [if_neg (by omega)]
    by_cases c2 : (largest + 1) + 8388608 < n
    · by_cases c3 : 16777216 ≤ n
      · rw [if_pos ⟨c2, c3⟩]
        go_enter Tryd.func33, Tryd.ntmps33
        go_wp2
        all_goals (go_ret; exact ⟨ret_int (by omega), rfl⟩)
      · rw [if_neg (by omega)]
        go_enter Tryd.func33, Tryd.ntmps33
        go_wp2
        all_goals (go_ret; exact ⟨ret_int (by omega), rfl⟩)
    · rw [if_neg (by omega)]
      go_enter Tryd.func33, Tryd.ntmps33
      go_wp2
      all_goals (go_ret; exact ⟨ret_int (by omega), rfl⟩)
theorem grow_3b (largest cut : Int) (w : World) (h0 : 4611686018427387904 ≤ largest) (h1 : largest < 18446744073709551616) (h2 : 0 ≤ cut) (h3 : cut < 18446744073709551616) :
    Calls Tryd.prog 33 #[.int .u64 largest, .bool true, .int .u64 cut, .int .i64 3] w fun e w' => e = .returned (.int .u64 (growS 4611686018427387904 cut 16777216)) ∧ w = w' := by
  unfold growS
  obtain ⟨n, hn⟩ : ∃ n, n = 4611686018427387904 - 4611686018427387904 % 16777216 + cut % 16777216 := ⟨_, rfl⟩
  have hb := cutjoin 24 16777215 rfl (by omega) 4611686018427387904 cut (by omega) (by omega) h2 h3
  rw [show (16777215 : Int) + 1 = 16777216 from rfl, ← hn] at hb
  rw [← hn, show (16777216 : Int) / 2 = 8388608 from rfl]
  have hn0 : 0 ≤ n := by omega
  have hn1 : n ≤ 4611686018427387904 + 16777216 := by omega
  clear hn
  by_cases c1 : n + 8388608 ≤ 4611686018427387904
  · by_cases c2 : n < 4611686018427387904 - 16777216
    · rw [if_pos ⟨c1, c2⟩]
      go_enter Tryd.func33, Tryd.ntmps33
      go_wp2
      all_goals (go_ret; exact ⟨ret_int (by omega), rfl⟩)
    · rw [if_neg (by omega), if_neg (by omega)]
      go_enter Tryd.func33, Tryd.ntmps33
      go_wp2
      all_goals (go_ret; exact ⟨ret_int (by omega), rfl⟩)
  · rw [if_neg (by omega)]
    by_cases c2 : 4611686018427387904 + 8388608 < n
    · by_cases c3 : 16777216 ≤ n
      · rw [if_pos ⟨c2, c3⟩]
        go_enter Tryd.func33, Tryd.ntmps33
        go_wp2
        all_goals (go_ret; exact ⟨ret_int (by omega), rfl⟩)
      · rw [if_neg (by omega)]
        go_enter Tryd.func33, Tryd.ntmps33
        go_wp2
        all_goals (go_ret; exact ⟨ret_int (by omega), rfl⟩)
    · rw [if_neg (by omega)]
      go_enter Tryd.func33, Tryd.ntmps33
      go_wp2
      all_goals (go_ret; exact ⟨ret_int (by omega), rfl⟩)
theorem grow_3c (largest cut : Int) (w : World) (h0 : 0 ≤ largest) (h1 : largest < 18446744073709551616) (h2 : 0 ≤ cut) (h3 : cut < 18446744073709551616) :
    Calls Tryd.prog 33 #[.int .u64 largest, .bool false, .int .u64 cut, .int .i64 3] w fun e w' => e = .returned (.int .u64 (growS 0 cut 16777216)) ∧ w = w' := by
  unfold growS
  obtain ⟨n, hn⟩ : ∃ n, n = 0 - 0 % 16777216 + cut % 16777216 := ⟨_, rfl⟩
  have hb := cutjoin 24 16777215 rfl (by omega) 0 cut (by omega) (by omega) h2 h3
  rw [show (16777215 : Int) + 1 = 16777216 from rfl, ← hn] at hb
  rw [← hn, show (16777216 : Int) / 2 = 8388608 from rfl]
  have hn0 : 0 ≤ n := by omega
  have hn1 : n ≤ 0 + 16777216 := by omega
  clear hn
  by_cases c1 : n + 8388608 ≤ 0
  · by_cases c2 : n < 4611686018427387904 - 16777216
    · rw [if_pos ⟨c1, c2⟩]
      go_enter Tryd.func33, Tryd.ntmps33
      go_wp2
      all_goals (go_ret; exact ⟨ret_int (by omega), rfl⟩)
    · rw [if_neg (by omega), if_neg (by omega)]
      go_enter Tryd.func33, Tryd.ntmps33
      go_wp2
      all_goals (go_ret; exact ⟨ret_int (by omega), rfl⟩)
  · rw [if_neg (by omega)]
    by_cases c2 : 0 + 8388608 < n
    · by_cases c3 : 16777216 ≤ n
      · rw [if_pos ⟨c2, c3⟩]
        go_enter Tryd.func33, Tryd.ntmps33
        go_wp2
        all_goals (go_ret; exact ⟨ret_int (by omega), rfl⟩)
      · rw [if_neg (by omega)]
        go_enter Tryd.func33, Tryd.ntmps33
        go_wp2
        all_goals (go_ret; exact ⟨ret_int (by omega), rfl⟩)
    · rw [if_neg (by omega)]
      go_enter Tryd.func33, Tryd.ntmps33
      go_wp2
      all_goals (go_ret; exact ⟨ret_int (by omega), rfl⟩)
theorem grow_4a (largest cut : Int) (w : World) (h0 : 0 ≤ largest) (h1 : largest < 4611686018427387904) (h2 : 0 ≤ cut) (h3 : cut < 18446744073709551616) :
    Calls Tryd.prog 33 #[.int .u64 largest, .bool true, .int .u64 cut, .int .i64 4] w fun e w' => e = .returned (.int .u64 (growS (largest + 1) cut 4294967296)) ∧ w = w' := by
  unfold growS
  obtain ⟨n, hn⟩ : ∃ n, n = (largest + 1) - (largest + 1) % 4294967296 + cut % 4294967296 := ⟨_, rfl⟩
  have hb := cutjoin 32 4294967295 rfl (by omega) (largest + 1) cut (by omega) (by omega) h2 h3
  rw [show (4294967295 : Int) + 1 = 4294967296 from rfl, ← hn] at hb
  rw [← hn, show (4294967296 : Int) / 2 = 2147483648 from rfl]
  have hn0 : 0 ≤ n := by omega
  have hn1 : n ≤ (largest + 1) + 4294967296 := by omega
  clear hn
  by_cases c1 : n + 2147483648 ≤ (largest + 1)
  · by_cases c2 : n < 4611686018427387904 - 4294967296
    · rw [if_pos ⟨c1, c2⟩]
      go_enter Tryd.func33, Tryd.ntmps33
      go_wp2
      all_goals (go_ret; exact ⟨ret_int (by omega), rfl⟩)
    · rw [if_neg (by omega), if_neg (by omega)]
      go_enter Tryd.func33, Tryd.ntmps33
      go_wp2
      all_goals (go_ret; exact ⟨ret_int (by omega), rfl⟩)
  · rw [if_neg (by omega)]
    by_cases c2 : (largest + 1) + 2147483648 < n
    · by_cases c3 : 4294967296 ≤ n
      · rw [if_pos ⟨c2, c3⟩]
        go_enter Tryd.func33, Tryd.ntmps33
        go_wp2
        all_goals (go_ret; exact ⟨ret_int (by omega), rfl⟩)
      · rw [if_neg (by omega)]
        go_enter Tryd.func33, Tryd.ntmps33
        go_wp2
        all_goals (go_ret; exact ⟨ret_int (by omega), rfl⟩)
    · rw [if_neg (by omega)]
      go_enter Tryd.func33, Tryd.ntmps33
      go_wp2
      all_goals (go_ret; exact ⟨ret_int (by omega), rfl⟩)
theorem grow_4b (largest cut : Int) (w : World) (h0 : 4611686018427387904 ≤ largest) (h1 : largest < 18446744073709551616) (h2 : 0 ≤ cut) (h3 : cut < 18446744073709551616) :
    Calls Tryd.prog 33 #[.int .u64 largest, .bool true, .int .u64 cut, .int .i64 4] w fun e w' => e = .returned (.int .u64 (growS 4611686018427387904 cut 4294967296)) ∧ w = w' := by
  unfold growS
  obtain ⟨n, hn⟩ : ∃ n, n = 4611686018427387904 - 4611686018427387904 % 4294967296 + cut % 4294967296 := ⟨_, rfl⟩
  have hb := cutjoin 32 4294967295 rfl (by omega) 4611686018427387904 cut (by omega) (by omega) h2 h3
  rw [show (4294967295 : Int) + 1 = 4294967296 from rfl, ← hn] at hb
  rw [← hn, show (4294967296 : Int) / 2 = 2147483648 from rfl]
  have hn0 : 0 ≤ n := by omega
  have hn1 : n ≤ 4611686018427387904 + 4294967296 := by omega
  clear hn
  by_cases c1 : n + 2147483648 ≤ 4611686018427387904
  · by_cases c2 : n < 4611686018427387904 - 4294967296
    · rw [if_pos ⟨c1, c2⟩]
      go_enter Tryd.func33, Tryd.ntmps33
      go_wp2
      all_goals (go_ret; exact ⟨ret_int (by omega), rfl⟩)
    · rw [if_neg (by omega), if_neg (by omega)]
      go_enter Tryd.func33, Tryd.ntmps33
      go_wp2
      all_goals (go_ret; exact ⟨ret_int (by omega), rfl⟩)
  · rw [if_neg (by omega)]
    by_cases c2 : 4611686018427387904 + 2147483648 < n
    · by_cases c3 : 4294967296 ≤ n
      · rw [if_pos ⟨c2, c3⟩]
        go_enter Tryd.func33, Tryd.ntmps33
        go_wp2
        all_goals (go_ret; exact ⟨ret_int (by omega), rfl⟩)
      · rw [if_neg (by omega)]
        go_enter Tryd.func33, Tryd.ntmps33
        go_wp2
        all_goals (go_ret; exact ⟨ret_int (by omega), rfl⟩)
    · rw [if_neg (by omega)]
      go_enter Tryd.func33, Tryd.ntmps33
      go_wp2
      all_goals (go_ret; exact ⟨ret_int (by omega), rfl⟩)
theorem grow_4c (largest cut : Int) (w : World) (h0 : 0 ≤ largest) (h1 : largest < 18446744073709551616) (h2 : 0 ≤ cut) (h3 : cut < 18446744073709551616) :
    Calls Tryd.prog 33 #[.int .u64 largest, .bool false, .int .u64 cut, .int .i64 4] w fun e w' => e = .returned (.int .u64 (growS 0 cut 4294967296)) ∧ w = w' := by
  unfold growS
  obtain ⟨n, hn⟩ : ∃ n, n = 0 - 0 % 4294967296 + cut % 4294967296 := ⟨_, rfl⟩
  have hb := cutjoin 32 4294967295 rfl (by omega) 0 cut (by omega) (by omega) h2 h3
  rw [show (4294967295 : Int) + 1 = 4294967296 from rfl, ← hn] at hb
  rw [← hn, show (4294967296 : Int) / 2 = 2147483648 from rfl]
  have hn0 : 0 ≤ n := by omega
  have hn1 : n ≤ 0 + 4294967296 := by omega
  clear hn
  by_cases c1 : n + 2147483648 ≤ 0
  · by_cases c2 : n < 4611686018427387904 - 4294967296
    · rw [if_pos ⟨c1, c2⟩]
      go_enter Tryd.func33, Tryd.ntmps33
      go_wp2
      all_goals (go_ret; exact ⟨ret_int (by omega), rfl⟩)
    · rw [if_neg (by omega), if_neg (by omega)]
      go_enter Tryd.func33, Tryd.ntmps33
      go_wp2
      all_goals (go_ret; exact ⟨ret_int (by omega), rfl⟩)
  · rw [if_neg (by omega)]
    by_cases c2 : 0 + 2147483648 < n
    · by_cases c3 : 4294967296 ≤ n
      · rw [if_pos ⟨c2, c3⟩]
        go_enter Tryd.func33, Tryd.ntmps33
        go_wp2
        all_goals (go_ret; exact ⟨ret_int (by omega), rfl⟩)
      · rw [if_neg (by omega)]
        go_enter Tryd.func33, Tryd.ntmps33
        go_wp2
        all_goals (go_ret; exact ⟨ret_int (by omega), rfl⟩)
    · rw [if_neg (by omega)]
      go_enter Tryd.func33, Tryd.ntmps33
      go_wp2
      all_goals (go_ret; exact ⟨ret_int (by omega), rfl⟩)
theorem grow_any (w : World) (largest cut size pn : Nat) (b : Bool) (hl : largest < 18446744073709551616) (hc : cut < 18446744073709551616) (h : GR largest b cut size pn) (h1 : 1 ≤ size) (h4 : size ≤ 4) :
    Calls Tryd.prog 33 #[.int .u64 (largest : Int), .bool b, .int .u64 (cut : Int), .int .i64 (size : Int)] w fun e w' => e = .returned (.int .u64 (pn : Int)) ∧ w = w' := by
  rw [← h.h]
  unfold growF
  rw [← growS_nat _ _ _ (by rcases (show size = 1 ∨ size = 2 ∨ size = 3 ∨ size = 4 by omega) with rfl | rfl | rfl | rfl <;> decide)]
  cases b
  · rcases (show size = 1 ∨ size = 2 ∨ size = 3 ∨ size = 4 by omega) with rfl | rfl | rfl | rfl
    · exact grow_1c _ _ w (by omega) (by omega) (by omega) (by omega)
    · exact grow_2c _ _ w (by omega) (by omega) (by omega) (by omega)
    · exact grow_3c _ _ w (by omega) (by omega) (by omega) (by omega)
    · exact grow_4c _ _ w (by omega) (by omega) (by omega) (by omega)
  · by_cases hb : largest < 4611686018427387904
    · rw [show ((nextN largest true : Nat) : Int) = (largest : Int) + 1 by unfold nextN; rw [if_pos rfl]; omega]
      rcases (show size = 1 ∨ size = 2 ∨ size = 3 ∨ size = 4 by omega) with rfl | rfl | rfl | rfl
      · exact grow_1a _ _ w (by omega) (by omega) (by omega) (by omega)
      · exact grow_2a _ _ w (by omega) (by omega) (by omega) (by omega)
      · exact grow_3a _ _ w (by omega) (by omega) (by omega) (by omega)
      · exact grow_4a _ _ w (by omega) (by omega) (by omega) (by omega)
    · rw [show ((nextN largest true : Nat) : Int) = 4611686018427387904 by unfold nextN; rw [if_pos rfl]; omega]
      rcases (show size = 1 ∨ size = 2 ∨ size = 3 ∨ size = 4 by omega) with rfl | rfl | rfl | rfl
      · exact grow_1b _ _ w (by omega) (by omega) (by omega) (by omega)
      · exact grow_2b _ _ w (by omega) (by omega) (by omega) (by omega)
      · exact grow_3b _ _ w (by omega) (by omega) (by omega) (by omega)
      · exact grow_4b _ _ w (by omega) (by omega) (by omega) (by omega)
end Go.Proofs.YtlncnjcbgfeaoaaDoor

/- The tag by its value: plain laws. -/
set_option maxRecDepth 100000
set_option linter.unusedVariables false
namespace Go.Proofs.YtlncnjcbgfeaoaaDoor
/-- the polynomial's value behind so many parts -/
def polyN (r : Nat) (p : List UInt8) : Nat → Nat
  | 0 => 0
  | n + 1 => ((polyN r p n + numL (blk17 (p.drop (16 * n)))) * r) % pP
theorem numL_append (xs ys : List UInt8) : numL (xs ++ ys) = numL xs + 256 ^ xs.length * numL ys := by
  induction xs with
  | nil => simp [numL]
  | cons x xs ih =>
    rw [List.cons_append, numL, numL, ih, List.length_cons, Nat.pow_succ, Nat.mul_add, ← Nat.add_assoc, Nat.mul_comm (256 ^ xs.length) 256, Nat.mul_assoc]
theorem numL_zeros (n : Nat) : numL (List.replicate n 0) = 0 := by
  induction n with
  | zero => rfl
  | succ n ih => rw [List.replicate_succ, numL, ih]; rfl
theorem numL_lt (xs : List UInt8) : numL xs < 256 ^ xs.length := by
  induction xs with
  | nil => exact Nat.one_pos
  | cons x xs ih =>
    have := x.toNat_lt
    rw [numL, List.length_cons, Nat.pow_succ]; omega
theorem blk17_num (p : List UInt8) : numL (blk17 p) = numL (p.take 16) + 256 ^ (p.take 16).length := by
  unfold blk17
  rw [numL_append, numL_append, numL_zeros]; simp [numL]
theorem blk17_lt (p : List UInt8) : numL (blk17 p) < 680564733841876926926749214863536422912 := by
  rw [blk17_num]
  have h1 := numL_lt (p.take 16)
  have h2 : 256 ^ (p.take 16).length ≤ 256 ^ 16 := Nat.pow_le_pow_right (by decide) (by rw [List.length_take]; omega)
  have h3 : (256 : Nat) ^ 16 = 340282366920938463463374607431768211456 := by decide
  omega
theorem mod_of_add {a b q : Nat} (h : a = b + q * pP) : a % pP = b % pP := by
  rw [h, Nat.add_mul_mod_self_right]
theorem hrun_val {k : List Nat} (Hk : LF k) (p : List UInt8) (n : Nat) : valL (hrun k p n) % pP = polyN (valL k) p n := by
  induction n with
  | zero => rfl
  | succ n ih =>
    have hl := (hrun_nf Hk p n).lf
    rw [hrun, polyN]
    unfold hstep
    have hx := ldL_lf (numL (blk17 (p.drop (16 * n))))
    have hm := addL_lm hl hx
    have hc := (cars_nf hm).lf
    obtain ⟨q1, h1⟩ := cars_val (h := addL (hrun k p n) (ldL (numL (blk17 (p.drop (16 * n)))) 5 0) 5) (addL_len _ _ _)
    obtain ⟨q2, h2⟩ := tmul_val hc.len Hk.len
    obtain ⟨q3, h3⟩ := cars_val (LT.mul hc Hk 5 (Nat.le_refl _)).len
    rw [addL_val hl.len hx.len, ldL_val _ (by have := blk17_lt (p.drop (16 * n)); omega)] at h1
    have e1 := mod_of_add h1
    have e2 := mod_of_add h2
    have e3 := mod_of_add h3
    rw [← e3, ← e2, Nat.mul_mod, ← e1, ← ih, ← Nat.mul_mod]
    rw [Nat.mul_mod (valL (hrun k p n) + _), Nat.mul_mod (valL (hrun k p n) % pP + _), Nat.mod_add_mod]
theorem polyN_lt (r : Nat) (p : List UInt8) (n : Nat) : polyN r p n < pP := by
  cases n with
  | zero => exact (by decide : 0 < pP)
  | succ n => exact Nat.mod_lt _ (by decide)
theorem tag_num (key p : List UInt8) (hk : LF (tagK key)) : tagS key p = tout (polyN (valL (tagK key)) p ((p.length + 15) / 16)) (key.drop 16) 16 := by
  unfold tagS
  have hn := hrun_nf hk p ((p.length + 15) / 16)
  have hc := cars_nn hn
  rw [(leastS_val hc).2]
  obtain ⟨q, h⟩ := cars_val hn.lf.len
  rw [← mod_of_add h, hrun_val hk]
end Go.Proofs.YtlncnjcbgfeaoaaDoor

/- Numbers as digits to the base 256: plain laws of the reference's long numbers. -/
set_option maxRecDepth 100000
set_option linter.unusedVariables false
namespace Go.Proofs.YtlncnjcbgfeaoaaDoor
def valD : List Nat → Nat
  | [] => 0
  | x :: xs => x + 256 * valD xs
def digs (V n : Nat) : List Nat := (List.range n).map fun j => V / 256 ^ j % 256
theorem digs_len (V n : Nat) : (digs V n).length = n := by simp [digs]
theorem digs_get (V n j : Nat) (h : j < n) : (digs V n)[j]? = some (V / 256 ^ j % 256) := by
  unfold digs; rw [List.getElem?_map, List.getElem?_range h]; rfl
theorem digs_succ (V n : Nat) : digs V (n + 1) = V % 256 :: digs (V / 256) n := by
  unfold digs
  rw [List.range_succ_eq_map, List.map_cons, List.map_map]
  simp only [Nat.pow_zero, Nat.div_one, List.cons.injEq, true_and]
  apply List.map_congr_left
  intro j _
  simp only [Function.comp, Nat.pow_succ, Nat.succ_eq_add_one]
  rw [Nat.mul_comm, ← Nat.div_div_eq_div_mul]
theorem valD_digs (n : Nat) : ∀ V : Nat, valD (digs V n) = V % 256 ^ n := by
  induction n with
  | zero => intro V; rw [Nat.pow_zero, Nat.mod_one]; rfl
  | succ n ih =>
    intro V
    rw [digs_succ, valD, ih, Nat.pow_succ, Nat.mul_comm (256 ^ n) 256, Nat.mod_mul]
theorem digs_lt (V n : Nat) : ∀ x ∈ digs V n, x < 256 := by
  intro x hx
  obtain ⟨j, _, rfl⟩ := List.mem_map.1 hx
  exact Nat.mod_lt _ (by decide)
theorem valD_append (xs ys : List Nat) : valD (xs ++ ys) = valD xs + 256 ^ xs.length * valD ys := by
  induction xs with
  | nil => simp [valD]
  | cons x xs ih =>
    rw [List.cons_append, valD, valD, ih, List.length_cons, Nat.pow_succ, Nat.mul_add, ← Nat.add_assoc, Nat.mul_comm (256 ^ xs.length) 256, Nat.mul_assoc]
theorem valD_zeros (n : Nat) : valD (List.replicate n 0) = 0 := by
  induction n with
  | zero => rfl
  | succ n ih => rw [List.replicate_succ, valD, ih]
theorem valD_lt {xs : List Nat} (h : ∀ x ∈ xs, x < 256) : valD xs < 256 ^ xs.length := by
  induction xs with
  | nil => exact Nat.one_pos
  | cons x xs ih =>
    have h1 := h x (by simp)
    have h2 := ih fun y hy => h y (by simp [hy])
    rw [valD, List.length_cons, Nat.pow_succ]; omega
theorem digs_valD {xs : List Nat} (h : ∀ x ∈ xs, x < 256) : digs (valD xs) xs.length = xs := by
  induction xs with
  | nil => rfl
  | cons x xs ih =>
    have h1 := h x (by simp)
    have h2 := ih fun y hy => h y (by simp [hy])
    rw [List.length_cons, digs_succ, valD]
    congr 1
    · omega
    · rw [show (x + 256 * valD xs) / 256 = valD xs by omega]; exact h2
/-- a digit that grows -/
theorem valD_set : ∀ (l : List Nat) (j a x : Nat), l[j]? = some a → valD (l.set j (a + x)) = valD l + 256 ^ j * x := by
  intro l
  induction l with
  | nil => intro j a x h; simp at h
  | cons y l ih =>
    intro j a x h
    cases j with
    | zero =>
      simp at h; subst h
      simp [valD]; omega
    | succ j =>
      rw [List.getElem?_cons_succ] at h
      rw [List.set_cons_succ, valD, valD, ih j a x h, Nat.pow_succ, Nat.mul_add, Nat.mul_comm (256 ^ j) 256, Nat.mul_assoc]; omega
theorem valD_map (xs : List UInt8) : valD (xs.map (·.toNat)) = numL xs := by
  induction xs with
  | nil => rfl
  | cons x xs ih => rw [List.map_cons, valD, numL, ih]
theorem valD_take_succ (l : List Nat) (i x : Nat) (h : l[i]? = some x) : valD (l.take (i + 1)) = valD (l.take i) + 256 ^ i * x := by
  have hi : i < l.length := (List.getElem?_eq_some_iff.1 h).1
  rw [List.take_add_one, h, valD_append, List.length_take, Nat.min_eq_left (by omega)]
  simp [valD]
/-- what is carried into a digit; the digits -/
def cK (l : List Nat) : Nat → Nat
  | 0 => 0
  | i + 1 => (cK l i + l.getD i 0) / 256
def carO (l : List Nat) (n i : Nat) : List Nat := (List.range n).map fun j => if j < i then (cK l j + l.getD j 0) % 256 else 0
theorem valD_drop (l : List Nat) (j : Nat) : valD (l.drop j) = l.getD j 0 + 256 * valD (l.drop (j + 1)) := by
  rcases Nat.lt_or_ge j l.length with h | h
  · rw [List.drop_eq_getElem_cons h, valD, List.getD_eq_getElem?_getD, List.getElem?_eq_getElem h]; rfl
  · rw [List.drop_of_length_le h, List.drop_of_length_le (by omega), List.getD_eq_getElem?_getD, List.getElem?_eq_none h]; rfl
theorem cK_val (l : List Nat) (j : Nat) : valD l / 256 ^ j = cK l j + valD (l.drop j) := by
  induction j with
  | zero => simp [cK]
  | succ j ih =>
    rw [Nat.pow_succ, ← Nat.div_div_eq_div_mul, ih, valD_drop, cK]; omega
theorem cK_dig (l : List Nat) (j : Nat) : (cK l j + l.getD j 0) % 256 = valD l / 256 ^ j % 256 := by
  rw [cK_val, valD_drop]; omega
theorem carO_len (l : List Nat) (n i : Nat) : (carO l n i).length = n := by simp [carO]
theorem carO_zero (l : List Nat) (n : Nat) : carO l n 0 = List.replicate n 0 := by
  apply List.ext_getElem?
  intro j
  rcases Nat.lt_or_ge j n with h | h
  · unfold carO; rw [List.getElem?_map, List.getElem?_range h, List.getElem?_replicate, if_pos h]; simp
  · rw [List.getElem?_eq_none (by rw [carO_len]; exact h), List.getElem?_eq_none (by rw [List.length_replicate]; exact h)]
theorem carO_all (l : List Nat) (n : Nat) : carO l n n = digs (valD l) n := by
  unfold carO digs
  apply List.map_congr_left
  intro j hj
  rw [if_pos (List.mem_range.1 hj), cK_dig]
theorem carO_set (l : List Nat) (n i : Nat) (hi : i < n) : (carO l n i).set i ((cK l i + l.getD i 0) % 256) = carO l n (i + 1) := by
  apply List.ext_getElem?
  intro j
  rcases Nat.lt_or_ge j n with h | h
  · by_cases e : j = i
    · subst e
      rw [List.getElem?_set_self (by rw [carO_len]; exact h)]
      unfold carO
      rw [List.getElem?_map, List.getElem?_range h]; simp
    · rw [List.getElem?_set_ne (fun e2 => e e2.symm)]
      unfold carO
      rw [List.getElem?_map, List.getElem?_map, List.getElem?_range h]
      simp only [Option.map_some, Option.some.injEq]
      by_cases h2 : j < i
      · rw [if_pos h2, if_pos (by omega)]
      · rw [if_neg h2, if_neg (by omega)]
  · rw [List.getElem?_eq_none (by rw [List.length_set, carO_len]; exact h), List.getElem?_eq_none (by rw [carO_len]; exact h)]
theorem cK_le {l : List Nat} {m : Nat} (h : ∀ x ∈ l, x ≤ 255 * m) (j : Nat) : cK l j ≤ m := by
  induction j with
  | zero => exact Nat.zero_le _
  | succ j ih =>
    have : l.getD j 0 ≤ 255 * m := by
      rw [List.getD_eq_getElem?_getD]
      rcases Nat.lt_or_ge j l.length with h2 | h2
      · rw [List.getElem?_eq_getElem h2]; exact h _ (List.getElem_mem h2)
      · rw [List.getElem?_eq_none h2]; exact Nat.zero_le _
    rw [cK]; omega
/-- what lies above 130 bits comes in five times below -/
def fold5 (V : Nat) : Nat := V % 1361129467683753853853498429727072845824 + 5 * (V / 1361129467683753853853498429727072845824)
def folds (V : Nat) : Nat → Nat
  | 0 => V
  | n + 1 => fold5 (folds V n)
theorem fold5_mod (V : Nat) : fold5 V % pP = V % pP := by
  unfold fold5 pP; omega
theorem folds_mod (V n : Nat) : folds V n % pP = V % pP := by
  induction n with
  | zero => rfl
  | succ n ih => rw [folds, fold5_mod, ih]
theorem folds_lt (V : Nat) (hV : V < 1361129467683753853853498429727072845824 * 1361129467683753853853498429727072845824) : folds V 4 < 1361129467683753853853498429727072845824 := by
  simp only [folds, fold5]
  omega
theorem folds_le (V n : Nat) (hV : V < 1361129467683753853853498429727072845824 * 1361129467683753853853498429727072845824) : folds V n < 1361129467683753853853498429727072845824 * 1361129467683753853853498429727072845824 := by
  induction n with
  | zero => exact hV
  | succ n ih => rw [folds]; unfold fold5; omega
def low17 (V : Nat) : List Nat := (digs V 40).take 16 ++ [V / 256 ^ 16 % 256 % 4]
def highN (V i : Nat) : List Nat := (List.range i).map fun j => V / 256 ^ (16 + j) % 256 / 4 + V / 256 ^ (16 + j + 1) % 256 % 4 * 64
theorem highN_eq (V i : Nat) : highN V i = digs (V / 1361129467683753853853498429727072845824) i := by
  unfold highN digs
  apply List.map_congr_left
  intro j _
  have e : V / 1361129467683753853853498429727072845824 / 256 ^ j = V / 256 ^ (16 + j) / 4 := by
    rw [Nat.div_div_eq_div_mul, Nat.div_div_eq_div_mul]
    congr 1
    rw [Nat.pow_add, show (1361129467683753853853498429727072845824 : Nat) = 256 ^ 16 * 4 by decide, Nat.mul_assoc, Nat.mul_assoc, Nat.mul_comm 4]
  rw [e, Nat.pow_succ, ← Nat.div_div_eq_div_mul]
  omega
theorem low17_val (V : Nat) : valD (low17 V) = V % 1361129467683753853853498429727072845824 := by
  unfold low17
  have e : (digs V 40).take 16 = digs V 16 := by
    unfold digs; rw [← List.map_take, List.take_range]; rfl
  rw [e, valD_append, valD_digs, digs_len]
  simp only [valD]
  have := Nat.mod_mul (x := V) (a := 256 ^ 16) (b := 4)
  rw [show (1361129467683753853853498429727072845824 : Nat) = 256 ^ 16 * 4 by decide, this]
  omega
/-- the digits that grow: five times so many of the high ones are in -/
structure LW (V i : Nat) (l : List Nat) : Prop where
  lo : 17 ≤ l.length
  hi : l.length ≤ 30
  val : valD l = V % 1361129467683753853853498429727072845824 + 5 * valD (highN V i)
  new : ∀ j x, i ≤ j → l[j]? = some x → x < 256
  le : ∀ x ∈ l, x ≤ 1600
theorem low17_len (V : Nat) : (low17 V).length = 17 := by simp [low17, digs_len]
theorem LW_zero (V : Nat) : LW V 0 (low17 V) := by
  have hl := low17_len V
  have hle : ∀ x ∈ low17 V, x < 256 := by
    intro x hx
    unfold low17 at hx
    rcases List.mem_append.1 hx with h | h
    · exact digs_lt _ _ _ (List.mem_of_mem_take h)
    · rw [List.mem_singleton.1 h]; omega
  refine ⟨by omega, by omega, by rw [low17_val]; rfl, fun j x _ h => hle x (List.mem_of_getElem? h), fun x hx => ?_⟩
  have := hle x hx; omega
theorem LW.grow {V i : Nat} {l : List Nat} (h : LW V i l) (hi : l.length ≤ i) (h22 : i ≤ 22) : LW V i (l ++ [0]) := by
  have h1 := h.lo
  have h2 := h.hi
  refine ⟨by simp; omega, by simp; omega, by rw [valD_append, h.val]; simp [valD], fun j x hj hx => ?_, fun x hx => ?_⟩
  · rcases Nat.lt_or_ge j l.length with hjl | hjl
    · rw [List.getElem?_append_left hjl] at hx; exact h.new j x hj hx
    · rw [List.getElem?_append_right hjl] at hx
      have := List.mem_of_getElem? hx
      rw [List.mem_singleton.1 this]; decide
  · rcases List.mem_append.1 hx with hx | hx
    · exact h.le x hx
    · rw [List.mem_singleton.1 hx]; decide
theorem highN_succ (V i : Nat) : valD (highN V (i + 1)) = valD (highN V i) + 256 ^ i * (V / 256 ^ (16 + i) % 256 / 4 + V / 256 ^ (16 + i + 1) % 256 % 4 * 64) := by
  unfold highN
  rw [List.range_succ, List.map_append, valD_append, List.length_map, List.length_range]; simp [valD]
theorem LW.step {V i x d : Nat} {l : List Nat} (h : LW V i l) (hx : l[i]? = some x) (hd : d = V / 256 ^ (16 + i) % 256 / 4 + V / 256 ^ (16 + i + 1) % 256 % 4 * 64) : LW V (i + 1) (l.set i (x + 5 * d)) := by
  have h1 := h.new i x (Nat.le_refl _) hx
  refine ⟨by rw [List.length_set]; exact h.lo, by rw [List.length_set]; exact h.hi, ?_, fun j y hj hy => ?_, fun y hy => ?_⟩
  · rw [valD_set _ _ _ _ hx, h.val, highN_succ, ← hd, Nat.mul_add, Nat.mul_left_comm]; omega
  · rw [List.getElem?_set_ne (by omega)] at hy; exact h.new j y (by omega) hy
  · rcases List.mem_or_eq_of_mem_set hy with hy | rfl
    · exact h.le y hy
    · omega
theorem LW.all {V : Nat} {l : List Nat} (h : LW V 23 l) (hV : V < 1361129467683753853853498429727072845824 * 1361129467683753853853498429727072845824) : valD l = fold5 V := by
  have e : (256 : Nat) ^ 23 = 24519928653854221733733552434404946937899825954937634816 := by decide
  rw [h.val, highN_eq, valD_digs, Nat.mod_eq_of_lt (a := V / 1361129467683753853853498429727072845824) (b := 256 ^ 23) (by rw [e]; omega)]
  rfl
/-- which of two numbers of as many digits is less -/
def lessS (a b : List Nat) : Bool := decide (valD a < valD b)
theorem less_top {a b : List Nat} {n x y : Nat} (ha : ∀ z ∈ a, z < 256) (hb : ∀ z ∈ b, z < 256) (hla : a.length = b.length) (hn : n < a.length) (ex : a[n]? = some x) (ey : b[n]? = some y) (hne : x ≠ y)
    (hd : a.drop (n + 1) = b.drop (n + 1)) : decide (x < y) = lessS a b := by
  have e1 : valD a = valD (a.take n) + 256 ^ n * (x + 256 * valD (a.drop (n + 1))) := by
    have := List.take_append_drop n a
    rw [← this, valD_append, List.length_take, Nat.min_eq_left (by omega), this, valD_drop, List.getD_eq_getElem?_getD, ex]; rfl
  have e2 : valD b = valD (b.take n) + 256 ^ n * (y + 256 * valD (b.drop (n + 1))) := by
    have := List.take_append_drop n b
    rw [← this, valD_append, List.length_take, Nat.min_eq_left (by omega), this, valD_drop, List.getD_eq_getElem?_getD, ey]; rfl
  have l1 := valD_lt (xs := a.take n) fun z hz => ha z (List.mem_of_mem_take hz)
  have l2 := valD_lt (xs := b.take n) fun z hz => hb z (List.mem_of_mem_take hz)
  rw [List.length_take, Nat.min_eq_left (by omega)] at l1 l2
  unfold lessS
  rw [e1, e2, hd]
  generalize valD (b.drop (n + 1)) = t
  generalize valD (a.take n) = u at *
  generalize valD (b.take n) = v at *
  generalize 256 ^ n = q at *
  rcases Nat.lt_or_ge x y with h | h
  · have : q * (x + 256 * t) + q ≤ q * (y + 256 * t) := by
      rw [← Nat.mul_succ]; exact Nat.mul_le_mul_left _ (by omega)
    rw [decide_eq_true h, decide_eq_true (by omega)]
  · have : q * (y + 256 * t) + q ≤ q * (x + 256 * t) := by
      rw [← Nat.mul_succ]; exact Nat.mul_le_mul_left _ (by omega)
    rw [decide_eq_false (by omega), decide_eq_false (by omega)]
theorem less_eq {a b : List Nat} (h : a = b) : lessS a b = false := by
  subst h; unfold lessS; rw [decide_eq_false (Nat.lt_irrefl _)]
/-- the prime's digits -/
def pD : List Nat := digs pP 40
/-- what is borrowed; the difference while it is made -/
def bK (l p : List Nat) : Nat → Nat
  | 0 => 0
  | i + 1 => if l.getD i 0 < p.getD i 0 + bK l p i then 1 else 0
def subO (l p : List Nat) (i : Nat) : List Nat := (List.range l.length).map fun j => if j < i then (l.getD j 0 + 256 - p.getD j 0 - bK l p j) % 256 else l.getD j 0
theorem bK_le (l p : List Nat) (i : Nat) : bK l p i ≤ 1 := by
  cases i with
  | zero => exact Nat.zero_le _
  | succ i => rw [bK]; split <;> omega
theorem subO_len (l p : List Nat) (i : Nat) : (subO l p i).length = l.length := by simp [subO]
theorem subO_zero (l p : List Nat) : subO l p 0 = l := by
  apply List.ext_getElem?
  intro j
  rcases Nat.lt_or_ge j l.length with h | h
  · unfold subO; rw [List.getElem?_map, List.getElem?_range h, List.getElem?_eq_getElem h]; simp [h]
  · rw [List.getElem?_eq_none (by rw [subO_len]; exact h), List.getElem?_eq_none h]
theorem subO_get (l p : List Nat) (i : Nat) (x : Nat) (h : l[i]? = some x) : (subO l p i)[i]? = some x := by
  have hl := (List.getElem?_eq_some_iff.1 h).1
  unfold subO; rw [List.getElem?_map, List.getElem?_range hl]; simp [List.getD_eq_getElem?_getD, h]
theorem subO_set (l p : List Nat) (i : Nat) (hi : i < l.length) : (subO l p i).set i ((l.getD i 0 + 256 - p.getD i 0 - bK l p i) % 256) = subO l p (i + 1) := by
  apply List.ext_getElem?
  intro j
  rcases Nat.lt_or_ge j l.length with h | h
  · by_cases e : j = i
    · subst e
      rw [List.getElem?_set_self (by rw [subO_len]; exact h)]
      unfold subO
      rw [List.getElem?_map, List.getElem?_range h]; simp
    · rw [List.getElem?_set_ne (fun e2 => e e2.symm)]
      unfold subO
      rw [List.getElem?_map, List.getElem?_map, List.getElem?_range h]
      simp only [Option.map_some, Option.some.injEq]
      by_cases h2 : j < i
      · rw [if_pos h2, if_pos (by omega)]
      · rw [if_neg h2, if_neg (by omega)]
  · rw [List.getElem?_eq_none (by rw [List.length_set, subO_len]; exact h), List.getElem?_eq_none (by rw [subO_len]; exact h)]
theorem sub_val {l p : List Nat} (hl : ∀ z ∈ l, z < 256) (hp : ∀ z ∈ p, z < 256) (hlp : p.length = l.length) (i : Nat) (hi : i ≤ l.length) :
    valD (l.take i) + 256 ^ i * bK l p i = valD (p.take i) + valD ((subO l p l.length).take i) := by
  induction i with
  | zero => simp [valD, bK]
  | succ i ih =>
    have hil : i < l.length := by omega
    obtain ⟨x, ex⟩ : ∃ x, l[i]? = some x := ⟨_, List.getElem?_eq_getElem hil⟩
    obtain ⟨y, ey⟩ : ∃ y, p[i]? = some y := ⟨_, List.getElem?_eq_getElem (by omega)⟩
    have lx := hl x (List.mem_of_getElem? ex)
    have ly := hp y (List.mem_of_getElem? ey)
    have hb := bK_le l p i
    have gx : l.getD i 0 = x := by rw [List.getD_eq_getElem?_getD, ex]; rfl
    have gy : p.getD i 0 = y := by rw [List.getD_eq_getElem?_getD, ey]; rfl
    have es : (subO l p l.length)[i]? = some ((x + 256 - y - bK l p i) % 256) := by
      unfold subO; rw [List.getElem?_map, List.getElem?_range hil, Option.map_some, if_pos hil, gx, gy]
    have ih := ih (by omega)
    rw [valD_take_succ _ _ _ ex, valD_take_succ _ _ _ ey, valD_take_succ _ _ _ es, bK, gx, gy, Nat.pow_succ]
    generalize valD (l.take i) = A at *
    generalize valD (p.take i) = Bv at *
    generalize valD ((subO l p l.length).take i) = C at *
    generalize bK l p i = b at *
    generalize 256 ^ i = q at *
    by_cases h : x < y + b
    · rw [if_pos h, show (x + 256 - y - b) % 256 = x + 256 - y - b by omega]
      have e : q * 256 * 1 + q * x = q * y + q * (x + 256 - y - b) + q * b := by
        rw [← Nat.mul_add, ← Nat.mul_add, Nat.mul_one, ← Nat.mul_add]
        congr 1; omega
      omega
    · rw [if_neg h, show (x + 256 - y - b) % 256 = x - y - b by omega]
      have e : q * x = q * y + q * (x - y - b) + q * b := by
        rw [← Nat.mul_add, ← Nat.mul_add]
        congr 1; omega
      omega
theorem sub_all {l p : List Nat} (hl : ∀ z ∈ l, z < 256) (hp : ∀ z ∈ p, z < 256) (hlp : p.length = l.length) (hle : valD p ≤ valD l) : subO l p l.length = digs (valD l - valD p) l.length := by
  have h := sub_val hl hp hlp l.length (Nat.le_refl _)
  rw [List.take_of_length_le (Nat.le_refl _), List.take_of_length_le (by omega), List.take_of_length_le (by rw [subO_len]; exact Nat.le_refl _)] at h
  have hlt : ∀ z ∈ subO l p l.length, z < 256 := by
    intro z hz
    unfold subO at hz
    obtain ⟨j, hj, rfl⟩ := List.mem_map.1 hz
    rw [if_pos (List.mem_range.1 hj)]
    exact Nat.mod_lt _ (by decide)
  have h1 := valD_lt hlt
  have h2 := valD_lt hl
  rw [subO_len] at h1
  have hb : bK l p l.length = 0 := by
    have := bK_le l p l.length
    rcases Nat.lt_or_ge 0 (bK l p l.length) with h0 | h0
    · have e : bK l p l.length = 1 := by omega
      rw [e] at h; omega
    · omega
  rw [hb] at h
  have := digs_valD hlt
  rw [subO_len] at this
  rw [← this]
  congr 1; omega
/-- what the long number is left with -/
theorem left_val {V : Nat} (hV : V < 1361129467683753853853498429727072845824 * 1361129467683753853853498429727072845824) : V % pP = if folds V 4 < pP then folds V 4 else folds V 4 - pP := by
  have h1 := folds_lt V hV
  rw [← folds_mod V 4]
  generalize folds V 4 = W at *
  unfold pP
  split <;> omega
/-- products laid into digits -/
structure PR (v s : Nat) (l : List Nat) : Prop where
  len : l.length = 40
  val : valD l = v
  le : ∀ x ∈ l, x ≤ 130305 * s
theorem PR_zero : PR 0 0 (List.replicate 40 0) := ⟨by simp, valD_zeros _, fun x hx => by rw [(List.mem_replicate.1 hx).2]; exact Nat.zero_le _⟩
theorem PR.step {v s j a x y : Nat} {l : List Nat} (h : PR v s l) (ha : l[j]? = some a) (hx : x ≤ 511) (hy : y ≤ 255) : PR (v + 256 ^ j * (x * y)) (s + 1) (l.set j (a + x * y)) := by
  have hm : x * y ≤ 511 * 255 := Nat.mul_le_mul hx hy
  have h2 := h.le a (List.mem_of_getElem? ha)
  refine ⟨by rw [List.length_set, h.len], by rw [valD_set _ _ _ _ ha, h.val], fun z hz => ?_⟩
  rcases List.mem_or_eq_of_mem_set hz with hz | rfl
  · have := h.le z hz; omega
  · omega
/-- the reference's last carry is the tag's -/
theorem tcar_cK (V : Nat) (ks : List UInt8) (h : List Nat) (hh : ∀ j, j < 16 → h.getD j 0 = V / 256 ^ j % 256 + (ks.getD j 0).toNat) (i : Nat) (hi : i ≤ 16) : cK h i = tcar V ks i := by
  induction i with
  | zero => rfl
  | succ i ih =>
    rw [cK, tcar, ih (by omega), hh i (by omega), show (256 : Nat) ^ i = 2 ^ (8 * i) by rw [Nat.pow_mul]]
    congr 1; omega
theorem tout_carO (V : Nat) (ks : List UInt8) (h : List Nat) (hh : ∀ j, j < 16 → h.getD j 0 = V / 256 ^ j % 256 + (ks.getD j 0).toNat) : (carO h 16 16).map UInt8.ofNat = tout V ks 16 := by
  unfold carO tout
  rw [List.map_map]
  apply List.map_congr_left
  intro j hj
  have hj := List.mem_range.1 hj
  simp only [Function.comp]
  rw [if_pos hj, if_pos hj, tcar_cK V ks h hh j (by omega), hh j hj, show (256 : Nat) ^ j = 2 ^ (8 * j) by rw [Nat.pow_mul]]
  apply UInt8.toNat_inj.1
  simp only [UInt8.toNat_ofNat']
  omega
end Go.Proofs.YtlncnjcbgfeaoaaDoor

/- the reference's Block: plain laws. -/
set_option maxRecDepth 100000
set_option linter.unusedVariables false
namespace Go.Proofs.YtlncnjcbgfeaoaaDoor
open Go.RowKit
/-- the j-th word of so many bytes -/
def wpB (bs : List UInt8) (i j : Nat) : Nat := numL ((bs.drop (4 * j)).take (min 4 (i - 4 * j)))
/-- words that bytes are laid into, so many of them -/
def updB (S : List Nat) (o : Nat) (bs : List UInt8) (i : Nat) : List Nat := (List.range 16).map fun k => if o ≤ k ∧ 4 * (k - o) < i then wpB bs i (k - o) else S.getD k 0
theorem updB_len (S : List Nat) (o : Nat) (bs : List UInt8) (i : Nat) : (updB S o bs i).length = 16 := by simp [updB]
theorem updB_get (S : List Nat) (o : Nat) (bs : List UInt8) (i k : Nat) (hk : k < 16) : (updB S o bs i)[k]? = some (if o ≤ k ∧ 4 * (k - o) < i then wpB bs i (k - o) else S.getD k 0) := by
  unfold updB; rw [List.getElem?_map, List.getElem?_range hk]; rfl
theorem wpB_zero (bs : List UInt8) (v : Nat) : wpB bs (4 * v) v = 0 := by
  unfold wpB; rw [Nat.sub_self]; rfl
theorem wpB_lt (bs : List UInt8) (v r : Nat) (hr : r < 4) : wpB bs (4 * v + r) v < 256 ^ r := by
  unfold wpB
  rw [show min 4 (4 * v + r - 4 * v) = r by omega]
  refine Nat.lt_of_lt_of_le (numL_lt _) (Nat.pow_le_pow_right (by decide) ?_)
  rw [List.length_take]; omega
theorem wpB_step (bs : List UInt8) (v r : Nat) (x : UInt8) (hr : r < 4) (hx : bs[4 * v + r]? = some x) : wpB bs (4 * v + r + 1) v = wpB bs (4 * v + r) v + 256 ^ r * x.toNat := by
  have hl := (List.getElem?_eq_some_iff.1 hx).1
  unfold wpB
  rw [show min 4 (4 * v + r + 1 - 4 * v) = r + 1 by omega, show min 4 (4 * v + r - 4 * v) = r by omega, List.take_add_one, List.getElem?_drop, hx, numL_append, List.length_take, List.length_drop, Nat.min_eq_left (by omega)]
  simp [numL]
theorem updB_old (S : List Nat) (o : Nat) (bs : List UInt8) (v r : Nat) (hr : r < 4) (hv : o + v < 16) (hS : S.getD (o + v) 0 = 0) : (updB S o bs (4 * v + r))[o + v]? = some (wpB bs (4 * v + r) v) := by
  rw [updB_get _ _ _ _ _ hv, show o + v - o = v by omega]
  by_cases h : r = 0
  · subst h
    rw [if_neg (by omega), hS, Nat.add_zero, wpB_zero]
  · rw [if_pos (by omega)]
theorem updB_set (S : List Nat) (o : Nat) (bs : List UInt8) (v r : Nat) (x : UInt8) (hr : r < 4) (hv : o + v < 16) (hx : bs[4 * v + r]? = some x) :
    (updB S o bs (4 * v + r)).set (o + v) (wpB bs (4 * v + r) v + 256 ^ r * x.toNat) = updB S o bs (4 * v + r + 1) := by
  apply List.ext_getElem?
  intro k
  rcases Nat.lt_or_ge k 16 with hk | hk
  · by_cases e : k = o + v
    · subst e
      rw [List.getElem?_set_self (by rw [updB_len]; exact hk), updB_get _ _ _ _ _ hk, if_pos (by omega), show o + v - o = v by omega, wpB_step _ _ _ _ hr hx]
    · rw [List.getElem?_set_ne (fun h => e h.symm), updB_get _ _ _ _ _ hk, updB_get _ _ _ _ _ hk]
      by_cases h : o ≤ k ∧ 4 * (k - o) < 4 * v + r
      · rw [if_pos h, if_pos (by omega)]
        unfold wpB
        rw [show min 4 (4 * v + r - 4 * (k - o)) = 4 by omega, show min 4 (4 * v + r + 1 - 4 * (k - o)) = 4 by omega]
      · rw [if_neg h, if_neg (by omega)]
  · rw [List.getElem?_eq_none (by rw [List.length_set, updB_len]; exact hk), List.getElem?_eq_none (by rw [updB_len]; exact hk)]
theorem le4_num (xs : List UInt8) (h : 4 ≤ xs.length) : numL (xs.take 4) = le4 xs := by
  match xs, h with
  | a :: b :: c :: d :: r, _ => simp [numL, le4]; omega
def expK : List UInt8 := [101, 120, 112, 97, 110, 100, 32, 51, 50, 45, 98, 121, 116, 101, 32, 107]
def Z16 : List Nat := [0, 0, 0, 0, 0, 0, 0, 0, 0, 0, 0, 0, 0, 0, 0, 0]
/-- the state while it is laid -/
def st1 : List Nat := updB Z16 0 expK 16
def st2 (key : List UInt8) : List Nat := updB st1 4 key 32
def st3 (key : List UInt8) (q : Nat) : List Nat := (st2 key).set 12 q
theorem st1_eq : st1 = [1634760805, 857760878, 2036477234, 1797285236, 0, 0, 0, 0, 0, 0, 0, 0, 0, 0, 0, 0] := by decide +kernel
theorem updB_zero (S : List Nat) (o : Nat) (bs : List UInt8) (hS : S.length = 16) : updB S o bs 0 = S := by
  apply List.ext_getElem?
  intro k
  rcases Nat.lt_or_ge k 16 with hk | hk
  · rw [updB_get _ _ _ _ _ hk, if_neg (by omega), List.getD_eq_getElem?_getD, List.getElem?_eq_getElem (by omega)]; rfl
  · rw [List.getElem?_eq_none (by rw [updB_len]; exact hk), List.getElem?_eq_none (by omega)]
theorem st2_getD (key : List UInt8) (k : Nat) (hk : k < 16) : (st2 key).getD k 0 = if 4 ≤ k ∧ k < 12 then wpB key 32 (k - 4) else st1.getD k 0 := by
  rw [List.getD_eq_getElem?_getD]
  unfold st2
  rw [updB_get _ _ _ _ _ hk]
  simp only [Option.getD_some]
  by_cases h : 4 ≤ k ∧ k < 12
  · rw [if_pos (by omega), if_pos h]
  · rw [if_neg (by omega), if_neg h]
theorem st3_getD (key : List UInt8) (q k : Nat) (hk : k < 16) : (st3 key q).getD k 0 = if k = 12 then q else (st2 key).getD k 0 := by
  unfold st3
  rw [List.getD_eq_getElem?_getD, List.getElem?_set]
  by_cases h : k = 12
  · subst h
    rw [if_pos rfl, if_pos (by unfold st2; rw [updB_len]; omega), if_pos rfl]; rfl
  · rw [if_neg (fun e => h e.symm), if_neg h, List.getD_eq_getElem?_getD]
theorem st4_eq {key nonce : List UInt8} (hk : key.length = 32) (hn : nonce.length = 12) (q : Nat) : updB (st3 key q) 13 nonce 12 = initC key nonce q := by
  have hs1 := st1_eq
  apply List.ext_getElem?
  intro k
  rcases Nat.lt_or_ge k 16 with hk16 | hk16
  · rw [updB_get _ _ _ _ _ hk16]
    rcases Nat.lt_or_ge k 13 with h13 | h13
    · rw [if_neg (by omega), st3_getD _ _ _ hk16]
      by_cases h12 : k = 12
      · subst h12; rw [if_pos rfl, initC_n]
      · rw [if_neg h12, st2_getD _ _ hk16]
        by_cases h4 : 4 ≤ k
        · rw [if_pos (by omega)]
          have := initC_key key nonce q (k - 4) (by omega)
          rw [show 4 + (k - 4) = k by omega] at this
          rw [this]
          unfold wpB
          rw [show min 4 (32 - 4 * (k - 4)) = 4 by omega, le4_num _ (by rw [List.length_drop]; omega)]
        · rw [if_neg (by omega), hs1]
          have hk4 : k = 0 ∨ k = 1 ∨ k = 2 ∨ k = 3 := by omega
          rcases hk4 with rfl | rfl | rfl | rfl <;> rfl
    · rw [if_pos (by omega)]
      have := initC_nonce key nonce q (k - 13) (by omega)
      rw [show 13 + (k - 13) = k by omega] at this
      rw [this]
      unfold wpB
      rw [show min 4 (12 - 4 * (k - 13)) = 4 by omega, le4_num _ (by rw [List.length_drop]; omega)]
  · rw [List.getElem?_eq_none (by rw [updB_len]; exact hk16), List.getElem?_eq_none (by rw [initC_len]; exact hk16)]
theorem st1_zero (v : Nat) (h : v < 12) : st1.getD (4 + v) 0 = 0 := by
  rw [st1_eq]
  have hv : v = 0 ∨ v = 1 ∨ v = 2 ∨ v = 3 ∨ v = 4 ∨ v = 5 ∨ v = 6 ∨ v = 7 ∨ v = 8 ∨ v = 9 ∨ v = 10 ∨ v = 11 := by omega
  rcases hv with rfl | rfl | rfl | rfl | rfl | rfl | rfl | rfl | rfl | rfl | rfl | rfl <;> rfl
theorem st3_zero (key : List UInt8) (q v : Nat) (h : v < 3) : (st3 key q).getD (13 + v) 0 = 0 := by
  rw [st3_getD _ _ _ (by omega), if_neg (by omega), st2_getD _ _ (by omega), if_neg (by omega)]
  have := st1_zero (9 + v) (by omega)
  rw [show 4 + (9 + v) = 13 + v by omega] at this
  exact this
theorem Z16_zero (v : Nat) (h : v < 16) : Z16.getD (0 + v) 0 = 0 := by
  have : ∀ v, v < 16 → Z16.getD (0 + v) 0 = 0 := by decide
  exact this v h
end Go.Proofs.YtlncnjcbgfeaoaaDoor
