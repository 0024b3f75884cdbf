/- salt.stir: a block of the stream. -/
import Derived.Test.YtlncnjcbgfeaoaaC2
import Derived.Test.YtlncnjcbgfeaoaaC3
import Derived.Deep.MidRow
import Derived.Deep.WholeRow
import Derived.Deep.RegionHeld3
set_option maxRecDepth 100000
set_option linter.unusedVariables false
namespace Go.Proofs.Ytlncnjcbgfeaoaa
open Go.RowKit
def cS : List Nat := [1634760805, 857760878, 2036477234, 1797285236]
/-- the state that a block begins with -/
def initC (key nonce : List UInt8) (n : Nat) : List Nat := cS ++ (List.range 8).map (fun i => le4 (key.drop (4 * i))) ++ [n] ++ (List.range 3).map (fun i => le4 (nonce.drop (4 * i)))
theorem initC_len (key nonce : List UInt8) (n : Nat) : (initC key nonce n).length = 16 := by simp [initC, cS]
def partC (L : List Nat) (m : Nat) : List Nat := L.take m ++ List.replicate (16 - m) 0
theorem partC_set (L : List Nat) (m x : Nat) (hL : L.length = 16) (hm : m < 16) (hx : L[m]? = some x) : (partC L m).set m x = partC L (m + 1) := by
  unfold partC
  have hl : (L.take m).length = m := by rw [List.length_take]; omega
  rw [List.set_append_right _ _ (by omega), hl, Nat.sub_self, show 16 - m = (16 - (m + 1)) + 1 by omega, List.replicate_succ, List.set_cons_zero, List.take_add_one, hx]
  simp
theorem partC_get (L : List Nat) (m : Nat) (hL : L.length = 16) (hm : m < 16) : (partC L m)[m]? = some 0 := by
  unfold partC
  have hl : (L.take m).length = m := by rw [List.length_take]; omega
  rw [List.getElem?_append_right (by omega), hl, Nat.sub_self, List.getElem?_replicate, if_pos (by omega)]
theorem partC_all (L : List Nat) (hL : L.length = 16) : partC L 16 = L := by
  unfold partC; rw [List.take_of_length_le (by omega)]; simp
theorem initC_key (key nonce : List UInt8) (n i : Nat) (h : i < 8) : (initC key nonce n)[4 + i]? = some (le4 (key.drop (4 * i))) := by
  unfold initC cS
  rw [List.append_assoc, List.append_assoc, List.getElem?_append_right (by simp), List.getElem?_append_left (by simp; omega)]
  simp [h]
theorem initC_n (key nonce : List UInt8) (n : Nat) : (initC key nonce n)[12]? = some n := by
  unfold initC cS
  rw [List.append_assoc, List.getElem?_append_right (by simp)]; simp
theorem initC_nonce (key nonce : List UInt8) (n i : Nat) (h : i < 3) : (initC key nonce n)[13 + i]? = some (le4 (nonce.drop (4 * i))) := by
  unfold initC cS
  rw [List.getElem?_append_right (by simp)]
  have e : 13 + i - (List.length ([1634760805, 857760878, 2036477234, 1797285236] ++ List.map (fun i => le4 (key.drop (4 * i))) (List.range 8) ++ [n])) = i := by simp
  rw [e, List.getElem?_map, List.getElem?_range h]; rfl
/-- words of a state are words -/
structure OKC (s : List Nat) : Prop where
  len : s.length = 16
  lt : ∀ x ∈ s, x < 4294967296
theorem le4_lt (xs : List UInt8) : le4 xs < 4294967296 := by
  unfold le4
  split
  · next x0 x1 x2 x3 _ => have := x0.toNat_lt; have := x1.toNat_lt; have := x2.toNat_lt; have := x3.toNat_lt; omega
  · omega
theorem initC_ok (key nonce : List UInt8) (n : Nat) (hn : n < 4294967296) : OKC (initC key nonce n) := by
  refine ⟨initC_len _ _ _, fun x hx => ?_⟩
  unfold initC cS at hx
  simp only [List.mem_append, List.mem_map, List.mem_cons, List.not_mem_nil, or_false] at hx
  rcases hx with ((h | h) | h) | h
  · omega
  · obtain ⟨_, _, rfl⟩ := h; exact le4_lt _
  · omega
  · obtain ⟨_, _, rfl⟩ := h; exact le4_lt _
theorem OKC.get {s : List Nat} (h : OKC s) (i : Nat) (hi : i < 16) : ∃ x, s[i]? = some x ∧ x < 4294967296 := by
  have hl := h.len
  exact ⟨s[i]'(by omega), List.getElem?_eq_getElem _, h.lt _ (List.getElem_mem _)⟩
theorem OKC.quart {s : List Nat} (h : OKC s) {i j k l : Nat} (hi : i < 16) (hj : j < 16) (hk : k < 16) (hl : l < 16) : OKC (quart s i j k l) := by
  obtain ⟨a, ea, ha⟩ := h.get i hi
  obtain ⟨b, eb, hb⟩ := h.get j hj
  obtain ⟨c, ec, hc⟩ := h.get k hk
  obtain ⟨d, ed, hd⟩ := h.get l hl
  have hq := qr_lt a b c d ha hb hc hd
  have e : Go.Proofs.Ytlncnjcbgfeaoaa.quart s i j k l = S4 s i j k l (qr a b c d).1 (qr a b c d).2.1 (qr a b c d).2.2.1 (qr a b c d).2.2.2 := by
    unfold Go.Proofs.Ytlncnjcbgfeaoaa.quart; simp only [List.getD_eq_getElem?_getD, ea, eb, ec, ed, Option.getD_some]
  rw [e]
  unfold S4
  refine ⟨by simp [h.len], fun x hx => ?_⟩
  rcases List.mem_or_eq_of_mem_set hx with hx | rfl
  · rcases List.mem_or_eq_of_mem_set hx with hx | rfl
    · rcases List.mem_or_eq_of_mem_set hx with hx | rfl
      · rcases List.mem_or_eq_of_mem_set hx with hx | rfl
        · exact h.lt x hx
        · exact hq.1
      · exact hq.2.1
    · exact hq.2.2.1
  · exact hq.2.2.2
/-- the columns; the diagonals; so many of them -/
def q1 (s : List Nat) : Nat → List Nat
  | 0 => s
  | i + 1 => quart (q1 s i) i (4 + i) (8 + i) (12 + i)
def q2 (s : List Nat) : Nat → List Nat
  | 0 => s
  | i + 1 => quart (q2 s i) i (4 + (i + 1) % 4) (8 + (i + 2) % 4) (12 + (i + 3) % 4)
def dbl (s : List Nat) : List Nat := q2 (q1 s 4) 4
def rounds (s : List Nat) : Nat → List Nat
  | 0 => s
  | r + 1 => dbl (rounds s r)
theorem q1_ok {s : List Nat} (h : OKC s) (i : Nat) (hi : i ≤ 4) : OKC (q1 s i) := by
  induction i with
  | zero => exact h
  | succ i ih => exact (ih (by omega)).quart (by omega) (by omega) (by omega) (by omega)
theorem q2_ok {s : List Nat} (h : OKC s) (i : Nat) (hi : i ≤ 4) : OKC (q2 s i) := by
  induction i with
  | zero => exact h
  | succ i ih => exact (ih (by omega)).quart (by omega) (by omega) (by omega) (by omega)
theorem rounds_ok {s : List Nat} (h : OKC s) (r : Nat) : OKC (rounds s r) := by
  induction r with
  | zero => exact h
  | succ r ih => exact q2_ok (q1_ok ih 4 (by omega)) 4 (by omega)
/-- the block's bytes, so many words of them, then zeros -/
def outC (x s : List Nat) : Nat → List UInt8
  | 0 => List.replicate 64 0
  | i + 1 => putS (outC x s i) (4 * i) ((x.getD i 0 + s.getD i 0) % 4294967296) 4
theorem outC_len (x s : List Nat) (i : Nat) : (outC x s i).length = 64 := by
  induction i with
  | zero => simp [outC]
  | succ i ih => rw [outC, putS_len, ih]
/-- a block of the stream, out of the walk's sight -/
structure ST (key nonce : List UInt8) (n : Nat) (d : List UInt8) : Prop where
  h : outC (rounds (initC key nonce n) 10) (initC key nonce n) 16 = d
  len : d.length = 64
/-- the same of the state -/
structure STL (L : List Nat) (d : List UInt8) : Prop where
  h : outC (rounds L 10) L 16 = d
/-- equations that the walk must not see -/
structure EL (a b : List Nat) : Prop where
  h : a = b
structure EB (a b : List UInt8) : Prop where
  h : a = b
structure STX (X L : List Nat) (d : List UInt8) : Prop where
  h : outC X L 16 = d
theorem ST_ex (key nonce : List UInt8) (n : Nat) : ∃ d, ST key nonce n d := ⟨_, rfl, outC_len _ _ _⟩
theorem AB_box (w : World) (t : TypeId) (xs : List UInt8) : AB (w.alloc (.cells (xs.map B).toArray t)) w.heap.size t xs := heap_alloc_new w _
theorem AB.al {w : World} {g : Nat} {t : TypeId} {vs : List UInt8} (h : AB w g t vs) (o : Obj) : AB (w.alloc o) g t vs := h.grown (World.grownBy_alloc w o none) (by simp)
theorem AR.al {w : World} {g : Nat} {t : TypeId} {vs : List Nat} (h : AR w g t vs) (o : Obj) : AR (w.alloc o) g t vs := h.grown (World.grownBy_alloc w o none) (by simp)
/-- words stored into an array of the call's own -/
theorem L_storeR {w : World} {ops : Array Oper} {rest : List Oper} {o : Oper} {f : Act} {Q : Exit → Act → World → Prop} (hgd : o.guard = none) (t : TypeId) (x y : Operand) (ho : o.op = .store t x y)
    {g n : Nat} {old : List Nat} (d : List Nat) (hx : f.eval x = .pointer (some ⟨g, 0, none⟩)) (hy : f.eval y = .agg (d.map U).toArray) (hA : AR w g t old) (hi : (Try.prog.info? t).map (·.size) = some n) (hl : old.length = n) (hl2 : d.length = n)
    (h : ∀ w', AR w' g t d → w.grownBy w' (some g) → wpList Try.prog ops Q rest (f.put o.dst undef) w') : wpList Try.prog ops Q (o :: rest) f w := by
  refine wpList_store_row hgd t x y ho g _ hx hy t _ hA (by rw [List.size_toArray, List.length_map, hl2]; exact hi) (by simp [hl, hl2]) (by rw [Array.all_eq_true_iff_forall_mem]; intro v hv; obtain ⟨z, _, rfl⟩ := List.mem_map.1 (by simpa using hv : v ∈ d.map U); rfl) ?_
  exact h _ (setRow_heap _ _ _ _ _ _ hA) (grownBy_setRow w g _)
theorem iW : (Try.prog.info? 73).map (·.size) = some 16 := by kernel_rfl
/-- bytes stored into an array of the call's own -/
theorem L_storeAB {w : World} {ops : Array Oper} {rest : List Oper} {o : Oper} {f : Act} {Q : Exit → Act → World → Prop} (hgd : o.guard = none) (t : TypeId) (x y : Operand) (ho : o.op = .store t x y)
    {g n : Nat} {old d : List UInt8} (hx : f.eval x = .pointer (some ⟨g, 0, none⟩)) (hy : f.eval y = .agg (d.map B).toArray) (hA : AB w g t old) (hi : (Try.prog.info? t).map (·.size) = some n) (hl : old.length = n) (hl2 : d.length = n)
    (h : ∀ w', AB w' g t d → w.grownBy w' (some g) → wpList Try.prog ops Q rest (f.put o.dst undef) w') : wpList Try.prog ops Q (o :: rest) f w := by
  refine wpList_store_row hgd t x y ho g _ hx hy t _ hA (by rw [List.size_toArray, List.length_map, hl2]; exact hi) (by simp [hl, hl2]) (by rw [Array.all_eq_true_iff_forall_mem]; intro v hv; exact one_B _ v (by simpa using hv)) ?_
  exact h _ (setRow_heap _ _ _ _ _ _ hA) (grownBy_setRow w g _)
theorem AB.rng {w : World} {g : Nat} {t : TypeId} {vs : List UInt8} (h : AB w g t vs) : w.rangeAt g 0 (vs.map B) := fun j v hv => by
  rw [List.getElem?_map] at hv
  obtain ⟨x, hx, rfl⟩ := Option.map_eq_some_iff.1 hv
  rw [Nat.zero_add]; exact h.cell j x hx
theorem AR.rng {w : World} {g : Nat} {t : TypeId} {vs : List Nat} (h : AR w g t vs) : w.rangeAt g 0 (vs.map U) := fun j v hv => by
  rw [List.getElem?_map] at hv
  obtain ⟨x, hx, rfl⟩ := Option.map_eq_some_iff.1 hv
  rw [Nat.zero_add]; exact h.cell j x hx
theorem AB.from {w : World} {g : Nat} {t : TypeId} {vs : List UInt8} (h : AB w g t vs) (m : Nat) (hm : m ≤ vs.length) (hl : vs.length ≤ maxLen) : BS w (some ⟨g, m, none⟩) (vs.length - m) (vs.length - m) (vs.drop m) := by
  refine ⟨by simp, Nat.le_refl _, by omega, one_B _, (fun h => by cases h), fun ad had => ?_⟩
  cases had
  refine ⟨fun _ => rfl, fun q v hq => ?_⟩
  rw [List.getElem?_map, List.getElem?_drop] at hq
  obtain ⟨x, hx, rfl⟩ := Option.map_eq_some_iff.1 hq
  exact h.cell _ x hx
theorem run_sliceFrom {t e : TypeId} {n : Nat} (hu : Try.prog.underlying t = some (.array n e)) (he : Try.prog.elem t = e) (hn : Try.prog.arrayLen t = n) (hs : ∀ w, (Go.sizeOf e).run Try.prog w = .ok 1 w) (g m : Nat) (hm : m < n) (w : World) :
    (Instr.sliceAt t (.pointer (some ⟨g, 0, none⟩)) (some (.int .i64 (m : Int))) none none).run Try.prog w = .ok (.slice (some ⟨g, m, none⟩) (n - m) (n - m)) w := by
  have h := run_sliceAt_array_l (P := Try.prog) w t ⟨g, 0, none⟩ (by rw [hn, he]; exact hu) .i64 (m : Int) (by omega) (by rw [hn]; omega)
  rw [h, he, hs]
  simp only [Result.andThen, slicedAt, Int.toNat_natCast, hn]
  rw [if_neg (by omega)]
  congr 2
  simp only [Option.some.injEq, Addr.add, Nat.mul_one]
  split
  · next h0 => subst h0; rfl
  · simp
theorem szB : ∀ w, (Go.sizeOf 5).run Try.prog w = .ok 1 w := fun w => by have := tB.sizeOf (w := w); rwa [tB.elem] at this
theorem i64B : (Try.prog.info? 63).map (·.size) = some 64 := by kernel_rfl
set_option maxHeartbeats 4000000 in
theorem stir_any (w : World) {key nonce d : List UInt8} (hkl : key.length = 32) (hnl : nonce.length = 12) (n : Nat) (hn : n < 4294967296) (hD : ST key nonce n d) :
    Calls Try.prog 34 #[.agg (key.map B).toArray, .agg (nonce.map B).toArray, .int .u32 (n : Int)] w fun e w' => e = .returned (.agg (d.map B).toArray) ∧ Below w.heap.size w w' := by
  have hz1 : (w.alloc (.cells (key.map B).toArray 22)).heap.size = w.heap.size + 1 := by simp
  have hz2 : ((w.alloc (.cells (key.map B).toArray 22)).alloc (.cells (nonce.map B).toArray 32)).heap.size = w.heap.size + 1 + 1 := by simp
  have hA := ((AB_box w 22 key).al (.cells (nonce.map B).toArray 32)).al (.cells #[.int .u8 0, .int .u8 0, .int .u8 0, .int .u8 0, .int .u8 0, .int .u8 0, .int .u8 0, .int .u8 0, .int .u8 0, .int .u8 0, .int .u8 0, .int .u8 0, .int .u8 0, .int .u8 0, .int .u8 0, .int .u8 0, .int .u8 0, .int .u8 0, .int .u8 0, .int .u8 0, .int .u8 0, .int .u8 0, .int .u8 0, .int .u8 0, .int .u8 0, .int .u8 0, .int .u8 0, .int .u8 0, .int .u8 0, .int .u8 0, .int .u8 0, .int .u8 0, .int .u8 0, .int .u8 0, .int .u8 0, .int .u8 0, .int .u8 0, .int .u8 0, .int .u8 0, .int .u8 0, .int .u8 0, .int .u8 0, .int .u8 0, .int .u8 0, .int .u8 0, .int .u8 0, .int .u8 0, .int .u8 0, .int .u8 0, .int .u8 0, .int .u8 0, .int .u8 0, .int .u8 0, .int .u8 0, .int .u8 0, .int .u8 0, .int .u8 0, .int .u8 0, .int .u8 0, .int .u8 0, .int .u8 0, .int .u8 0, .int .u8 0, .int .u8 0] 63)
  have hN := (AB_box (w.alloc (.cells (key.map B).toArray 22)) 32 nonce).al (.cells #[.int .u8 0, .int .u8 0, .int .u8 0, .int .u8 0, .int .u8 0, .int .u8 0, .int .u8 0, .int .u8 0, .int .u8 0, .int .u8 0, .int .u8 0, .int .u8 0, .int .u8 0, .int .u8 0, .int .u8 0, .int .u8 0, .int .u8 0, .int .u8 0, .int .u8 0, .int .u8 0, .int .u8 0, .int .u8 0, .int .u8 0, .int .u8 0, .int .u8 0, .int .u8 0, .int .u8 0, .int .u8 0, .int .u8 0, .int .u8 0, .int .u8 0, .int .u8 0, .int .u8 0, .int .u8 0, .int .u8 0, .int .u8 0, .int .u8 0, .int .u8 0, .int .u8 0, .int .u8 0, .int .u8 0, .int .u8 0, .int .u8 0, .int .u8 0, .int .u8 0, .int .u8 0, .int .u8 0, .int .u8 0, .int .u8 0, .int .u8 0, .int .u8 0, .int .u8 0, .int .u8 0, .int .u8 0, .int .u8 0, .int .u8 0, .int .u8 0, .int .u8 0, .int .u8 0, .int .u8 0, .int .u8 0, .int .u8 0, .int .u8 0, .int .u8 0] 63)
  have hO : AB (((w.alloc (.cells (key.map B).toArray 22)).alloc (.cells (nonce.map B).toArray 32)).alloc (.cells #[.int .u8 0, .int .u8 0, .int .u8 0, .int .u8 0, .int .u8 0, .int .u8 0, .int .u8 0, .int .u8 0, .int .u8 0, .int .u8 0, .int .u8 0, .int .u8 0, .int .u8 0, .int .u8 0, .int .u8 0, .int .u8 0, .int .u8 0, .int .u8 0, .int .u8 0, .int .u8 0, .int .u8 0, .int .u8 0, .int .u8 0, .int .u8 0, .int .u8 0, .int .u8 0, .int .u8 0, .int .u8 0, .int .u8 0, .int .u8 0, .int .u8 0, .int .u8 0, .int .u8 0, .int .u8 0, .int .u8 0, .int .u8 0, .int .u8 0, .int .u8 0, .int .u8 0, .int .u8 0, .int .u8 0, .int .u8 0, .int .u8 0, .int .u8 0, .int .u8 0, .int .u8 0, .int .u8 0, .int .u8 0, .int .u8 0, .int .u8 0, .int .u8 0, .int .u8 0, .int .u8 0, .int .u8 0, .int .u8 0, .int .u8 0, .int .u8 0, .int .u8 0, .int .u8 0, .int .u8 0, .int .u8 0, .int .u8 0, .int .u8 0, .int .u8 0] 63)) ((w.alloc (.cells (key.map B).toArray 22)).alloc (.cells (nonce.map B).toArray 32)).heap.size 63 (List.replicate 64 0) := heap_alloc_new _ _
  have hb : Below w.heap.size w _ := ((below_alloc w (.cells (key.map B).toArray 22)).alloc (by simp) (.cells (nonce.map B).toArray 32)).alloc (by simp; omega) (.cells #[.int .u8 0, .int .u8 0, .int .u8 0, .int .u8 0, .int .u8 0, .int .u8 0, .int .u8 0, .int .u8 0, .int .u8 0, .int .u8 0, .int .u8 0, .int .u8 0, .int .u8 0, .int .u8 0, .int .u8 0, .int .u8 0, .int .u8 0, .int .u8 0, .int .u8 0, .int .u8 0, .int .u8 0, .int .u8 0, .int .u8 0, .int .u8 0, .int .u8 0, .int .u8 0, .int .u8 0, .int .u8 0, .int .u8 0, .int .u8 0, .int .u8 0, .int .u8 0, .int .u8 0, .int .u8 0, .int .u8 0, .int .u8 0, .int .u8 0, .int .u8 0, .int .u8 0, .int .u8 0, .int .u8 0, .int .u8 0, .int .u8 0, .int .u8 0, .int .u8 0, .int .u8 0, .int .u8 0, .int .u8 0, .int .u8 0, .int .u8 0, .int .u8 0, .int .u8 0, .int .u8 0, .int .u8 0, .int .u8 0, .int .u8 0, .int .u8 0, .int .u8 0, .int .u8 0, .int .u8 0, .int .u8 0, .int .u8 0, .int .u8 0, .int .u8 0] 63)
  rw [hz2] at hO
  rw [hz1] at hN
  have h4 : partC (initC key nonce n) 4 = [1634760805, 857760878, 2036477234, 1797285236, 0, 0, 0, 0, 0, 0, 0, 0, 0, 0, 0, 0] := rfl
  have hLk := fun i => initC_key key nonce n i
  have hLn := initC_n key nonce n
  have hLo := fun i => initC_nonce key nonce n i
  have hok := initC_ok key nonce n hn
  have hst : STL (initC key nonce n) d := ⟨hD.h⟩
  obtain ⟨L, hL⟩ : ∃ L, initC key nonce n = L := ⟨_, rfl⟩
  rw [hL] at h4 hLn hok hst
  simp only [hL] at hLk hLo
  have H4 := Lib.hid h4
  have HLk := Lib.hid hLk
  have HLn := Lib.hid hLn
  have HLo := Lib.hid hLo
  have HOK := Lib.hid hok
  have HST := Lib.hid hst
  have hdl := hD.len
  clear hD h4 hLk hLn hLo hok hst hL hz1 hz2
  go_enter Try.func34, Try.ntmps34
  go_upto_region 1 with (fail)
  generalize (World.alloc _ _) = W1 at *
  have hg0 := hA.lt
  have hg1 := hN.lt
  have hg2 := hO.lt
  go_upto_region 2 with (refine L_storeR rfl _ _ _ rfl [1634760805, 857760878, 2036477234, 1797285236, 0, 0, 0, 0, 0, 0, 0, 0, 0, 0, 0, 0] rfl rfl (show AR (W1.alloc _) W1.heap.size 73 (List.replicate 16 0) from heap_alloc_new W1 _) iW (by simp) rfl ?_; intro w2 hS2 hgr2)
  rw [← H4.out] at hS2
  have hA2 := (hA.al _).grown hgr2 (by simp; omega)
  have hN2 := (hN.al _).grown hgr2 (by simp; omega)
  have hO2 := (hO.al _).grown hgr2 (by simp; omega)
  have hb2 : Below w.heap.size w w2 := (hb.alloc hb.size _).grown hgr2 (by simp; omega) (fun k hk => by cases hk; exact hb.size)
  obtain ⟨g7, hg7⟩ : ∃ g7, W1.heap.size = g7 := ⟨_, rfl⟩
  rw [hg7] at hS2 hg0 hg1 hg2 ⊢
  have HA2 := Lib.hid hA2
  have HN2 := Lib.hid hN2
  have HO2 := Lib.hid hO2
  have HB2 := Lib.hid hb2
  have hsk := fun m hm => run_sliceFrom Try.underlying22 (by kernel_rfl) (by kernel_rfl) szB w.heap.size m hm
  have hsn := fun m hm => run_sliceFrom Try.underlying32 (by kernel_rfl) (by kernel_rfl) szB (w.heap.size + 1) m hm
  have Hsk := Lib.hid hsk
  have Hsn := Lib.hid hsn
  clear hA hN hO hb hA2 hN2 hO2 hb2 hg7 hgr2 hsk hsn
  go_wp2
  go_loopw [16] (fun s16 wr => ∃ i : Nat, i ≤ 8 ∧ s16 = .int .i64 (i : Int) ∧ AR wr g7 73 (partC L (4 + i)) ∧ w2.grownBy wr (some g7)) (fun s16 _ => 8 - (intOf s16).toNat)
  case atStart => exact ⟨0, by omega, rfl, hS2, World.grownBy.refl w2 _⟩
  case round =>
    obtain ⟨i, hi, rfl, hS, hg⟩ := hrel
    clear hS2
    by_cases hlt : i < 8
    · obtain ⟨x0, x1, x2, x3, r, hd⟩ := drop4 key i (by omega)
      have hAr := HA2.out.grown hg (by simp; omega)
      have hbs := hAr.from (4 * i) (by omega) (by rw [hkl]; unfold maxLen; omega)
      rw [hkl] at hbs
      have hv := HLk.out i hlt
      rw [hd, show le4 (x0 :: x1 :: x2 :: x3 :: r) = le4 [x0, x1, x2, x3] from rfl] at hv
      have hps := partC_set L (4 + i) _ HOK.out.len (by omega) hv
      have hpg := partC_get L (4 + i) HOK.out.len (by omega)
      have Hd := Lib.hid hd
      have Hps := Lib.hid hps
      have HS := Lib.hid hS
      have HG := Lib.hid hg
      have hcell := hS.cell (4 + i) 0 hpg
      have hfr := hS.fr (4 + i)
      obtain ⟨m4, hm4⟩ : ∃ m4, 4 * i = m4 := ⟨_, rfl⟩
      have h4i : 4 * (i : Int) = (m4 : Int) := by omega
      obtain ⟨m5, hm5⟩ : ∃ m5, 4 + i = m5 := ⟨_, rfl⟩
      have h5i : 4 + (i : Int) = (m5 : Int) := by omega
      have hm16 : m5 < 16 := by omega
      rw [hm4] at hbs
      rw [hm5] at hcell hfr
      have HM5 := Lib.hid hm5
      have hsl := Hsk.out m4 (by omega)
      have Hbs := Lib.hid hbs
      clear hd hS hg hv hps hpg hAr hm4 hm5 hbs
      go_upto_region 6 with (go_at_call 37; refine (low4_any _ Hbs.out x0 x1 x2 x3 r (by rw [← Hd.out]; congr 1; omega)).mono ?_; rintro e w' ⟨rfl, mq, rfl⟩; have hcq : (wr.drewN mq).cell? ⟨g7, m5, none⟩ = some (.int .u32 0) := hcell; have hfq : (wr.drewN mq).frozen? ⟨g7, m5, none⟩ = false := hfr)
      have hS3 := (HS.out.drewN mq).set_ m5 (le4 [x0, x1, x2, x3])
      have hg3 := grown_set (grown_drewN HG.out mq) m5 (.int .u32 ((le4 [x0, x1, x2, x3] : Nat) : Int))
      have e5 : (partC L (4 + i)).set m5 (le4 [x0, x1, x2, x3]) = partC L (4 + (i + 1)) := by rw [← HM5.out]; exact Hps.out
      rw [e5] at hS3
      have HS3 := Lib.hid hS3
      have HG3 := Lib.hid hg3
      clear e5 hS3 hg3 hcell hfr hcq hfq h4i h5i hsl
      go_wp2
      go_roundw
      case rel => exact ⟨i + 1, by omega, by go_num, HS3.out, HG3.out⟩
      case measure => simp [intOf]; omega
    · obtain rfl : i = 8 := by omega
      rw [show ((8 : Nat) : Int) = 8 from rfl]
      have hS' : AR wr g7 73 (partC L 12) := hS
      have hc12 := hS'.cell 12 0 (partC_get L 12 HOK.out.len (by omega))
      have hf12 := hS'.fr 12
      have h13 := hS'.set_ 12 n
      rw [partC_set L 12 n HOK.out.len (by omega) HLn.out] at h13
      have hg13 := grown_set hg 12 (.int .u32 (n : Int))
      have H13 := Lib.hid h13
      have HG13 := Lib.hid hg13
      clear hS hS' hg h13 hg13
      go_upto_region 8 with (fail)
      clear hc12 hf12
      generalize World.setCell _ _ _ = w3 at *
      go_wp2
      go_loopw [29] (fun s29 wr => ∃ i : Nat, i ≤ 3 ∧ s29 = .int .i64 (i : Int) ∧ AR wr g7 73 (partC L (13 + i)) ∧ w2.grownBy wr (some g7)) (fun s29 _ => 3 - (intOf s29).toNat)
      case atStart => exact ⟨0, by omega, rfl, H13.out, HG13.out⟩
      case round =>
        obtain ⟨i, hi, rfl, hS, hg⟩ := hrel
        by_cases hlt3 : i < 3
        · obtain ⟨x0, x1, x2, x3, r, hd⟩ := drop4 nonce i (by omega)
          have hNr := HN2.out.grown hg (by simp; omega)
          have hbs := hNr.from (4 * i) (by omega) (by rw [hnl]; unfold maxLen; omega)
          rw [hnl] at hbs
          have hv := HLo.out i hlt3
          rw [hd, show le4 (x0 :: x1 :: x2 :: x3 :: r) = le4 [x0, x1, x2, x3] from rfl] at hv
          have hps := partC_set L (13 + i) _ HOK.out.len (by omega) hv
          have hpg := partC_get L (13 + i) HOK.out.len (by omega)
          have Hd := Lib.hid hd
          have Hps := Lib.hid hps
          have HS := Lib.hid hS
          have HG := Lib.hid hg
          have hcell := hS.cell (13 + i) 0 hpg
          have hfr := hS.fr (13 + i)
          obtain ⟨m4, hm4⟩ : ∃ m4, 4 * i = m4 := ⟨_, rfl⟩
          have h4i : 4 * (i : Int) = (m4 : Int) := by omega
          obtain ⟨m5, hm5⟩ : ∃ m5, 13 + i = m5 := ⟨_, rfl⟩
          have h5i : 13 + (i : Int) = (m5 : Int) := by omega
          have hm16 : m5 < 16 := by omega
          rw [hm4] at hbs
          rw [hm5] at hcell hfr
          have HM5 := Lib.hid hm5
          have hsl := Hsn.out m4 (by omega)
          have Hbs := Lib.hid hbs
          clear hd hS hg hv hps hpg hNr hm4 hm5 hbs
          go_upto_region 12 with (go_at_call 37; refine (low4_any _ Hbs.out x0 x1 x2 x3 r (by rw [← Hd.out]; congr 1; omega)).mono ?_; rintro e w' ⟨rfl, mq, rfl⟩; have hcq : (wr.drewN mq).cell? ⟨g7, m5, none⟩ = some (.int .u32 0) := hcell; have hfq : (wr.drewN mq).frozen? ⟨g7, m5, none⟩ = false := hfr)
          have hS3 := (HS.out.drewN mq).set_ m5 (le4 [x0, x1, x2, x3])
          have hg3 := grown_set (grown_drewN HG.out mq) m5 (.int .u32 ((le4 [x0, x1, x2, x3] : Nat) : Int))
          have e5 : (partC L (13 + i)).set m5 (le4 [x0, x1, x2, x3]) = partC L (13 + (i + 1)) := by rw [← HM5.out]; exact Hps.out
          rw [e5] at hS3
          have HS3 := Lib.hid hS3
          have HG3 := Lib.hid hg3
          clear e5 hS3 hg3 hcell hfr hcq hfq h4i h5i hsl
          go_wp2
          go_roundw
          case rel => exact ⟨i + 1, by omega, by go_num, HS3.out, HG3.out⟩
          case measure => simp [intOf]; omega
        · obtain rfl : i = 3 := by omega
          rw [show ((3 : Nat) : Int) = 3 from rfl]
          have hS' : AR wr g7 73 (partC L 16) := hS
          rw [partC_all L HOK.out.len] at hS'
          have hr7 := hS'.rng
          have h16 : (Try.prog.info? 73).map (·.size) = some (L.map U).length := by rw [List.length_map, HOK.out.len]; exact iW
          have H16 := Lib.hid h16
          have HS7 := Lib.hid hS'
          have HG7 := Lib.hid hg
          have hok := HOK.out.len
          clear hS hS' hg h16 H13 HG13
          go_upto_region 14 with (first
            | (refine wpList_load_mid rfl _ _ rfl _ _ rfl (L.map U) _ hr7 Try.underlying73 rfl H16.out ?_)
            | (refine L_storeR rfl _ _ _ rfl L rfl rfl (show AR (wr.alloc _) wr.heap.size 73 (List.replicate 16 0) from heap_alloc_new wr _) iW (by simp) hok ?_; intro w5 hX5 hg5))
          have hb5 : wr.heap.size ≤ w5.heap.size := by have := hg5.size; simp at this; omega
          obtain ⟨g10, hg10⟩ : ∃ g10, wr.heap.size = g10 := ⟨_, rfl⟩
          rw [hg10] at hX5 ⊢
          have hgr := HG7.out.size
          have hG5 : wr.grownBy w5 none := ⟨hg5.os, hg5.tape, hg5.output, hb5, fun k hk _ => (hg5.block k (by simp; omega) (by simp; omega)).trans (Below.heap_alloc wr _ k hk)⟩
          have hS5 := HS7.out.grown hG5 (by simp)
          have hG5' : w2.grownBy w5 (some g7) := grown_trans HG7.out (grown_weak hG5)
          have HS5 := Lib.hid hS5
          have HG5 := Lib.hid hG5'
          have l10 := hX5.lt
          have hg7l := hS5.lt
          have hgs : g7 < g10 := by have := HS7.out.lt; omega
          clear hg5 hG5 hS5 hG5' hr7 H16 HS7 HG7 hg10
          go_wp2
          go_loopw [41] (fun s41 wr => ∃ r : Nat, r ≤ 10 ∧ s41 = .int .i64 (r : Int) ∧ AR wr g10 73 (rounds L r) ∧ w5.grownBy wr (some g10)) (fun s41 _ => 10 - (intOf s41).toNat)
          case atStart => exact ⟨0, by omega, rfl, hX5, World.grownBy.refl w5 _⟩
          case round =>
            obtain ⟨r, hr, rfl, hX, hgx⟩ := hrel
            clear hX5
            by_cases hlt10 : r < 10
            · have hox := rounds_ok HOK.out r
              obtain ⟨X, hXe⟩ : ∃ X, rounds L r = X := ⟨_, rfl⟩
              rw [hXe] at hX hox
              have HNX : EL (rounds L (r + 1)) (q2 (q1 X 4) 4) := ⟨by rw [← hXe]; rfl⟩
              have HOX := Lib.hid hox
              have HX0 := Lib.hid hX
              have HGX := Lib.hid hgx
              clear hXe hox hX hgx
              go_wp2
              rw [show decide ((r : Int) < 10) = true from decide_eq_true (by omega)]
              go_loopw [43] (fun s43 wq => ∃ i : Nat, i ≤ 4 ∧ s43 = .int .i64 (i : Int) ∧ AR wq g10 73 (q1 X i) ∧ w5.grownBy wq (some g10)) (fun s43 _ => 4 - (intOf s43).toNat)
              case atStart => exact ⟨0, by omega, rfl, HX0.out, HGX.out⟩
              case round =>
                obtain ⟨i, hi, rfl, hQ, hgq⟩ := hrel
                by_cases hl4 : i < 4
                · have hokq := q1_ok HOX.out i hi
                  obtain ⟨j4, hj4⟩ : ∃ j4, 4 + i = j4 := ⟨_, rfl⟩
                  obtain ⟨j8, hj8⟩ : ∃ j8, 8 + i = j8 := ⟨_, rfl⟩
                  obtain ⟨j12, hj12⟩ : ∃ j12, 12 + i = j12 := ⟨_, rfl⟩
                  have e4 : 4 + (i : Int) = (j4 : Int) := by omega
                  have e8 : 8 + (i : Int) = (j8 : Int) := by omega
                  have e12 : 12 + (i : Int) = (j12 : Int) := by omega
                  have hix : IX (q1 X i) i j4 j8 j12 := ⟨hokq.len, by omega, by omega, by omega, by omega, by omega, by omega, by omega, by omega, by omega, by omega⟩
                  obtain ⟨T, hT⟩ : ∃ T, quart (q1 X i) i j4 j8 j12 = T := ⟨_, rfl⟩
                  have Hst : EL (q1 X (i + 1)) T := ⟨by rw [← hT, ← hj4, ← hj8, ← hj12]; rfl⟩
                  obtain ⟨v0, ev0, lv0⟩ := hokq.get i hix.hi
                  obtain ⟨v1, ev1, lv1⟩ := hokq.get j4 hix.hj
                  obtain ⟨v2, ev2, lv2⟩ := hokq.get j8 hix.hk
                  obtain ⟨v3, ev3, lv3⟩ := hokq.get j12 hix.hl
                  have hc := quarter_any _ hQ hix ev0 ev1 ev2 ev3 lv0 lv1 lv2 lv3
                  rw [hT] at hc
                  have HCq := Lib.hid hc
                  have Hgq := Lib.hid hgq
                  clear hokq hj4 hj8 hj12 hix hT hc ev0 ev1 ev2 ev3 lv0 lv1 lv2 lv3 hQ hgq
                  go_wp2_with (go_at_call 43; refine HCq.out.mono ?_; rintro e w' ⟨rfl, hQ2, hg2⟩)
                  clear e4 e8 e12 HCq
                  have HQ2 := Lib.hid hQ2
                  have HG2 := Lib.hid (grown_trans Hgq.out hg2)
                  clear hQ2 hg2
                  go_roundw
                  case rel => exact ⟨i + 1, by omega, by go_num, by rw [Hst.h]; exact HQ2.out, HG2.out⟩
                  case measure => simp [intOf]; omega
                · obtain rfl : i = 4 := by omega
                  rw [show ((4 : Nat) : Int) = 4 from rfl]
                  have hoy := q1_ok HOX.out 4 (by omega)
                  obtain ⟨Y, hY⟩ : ∃ Y, q1 X 4 = Y := ⟨_, rfl⟩
                  rw [hY] at hQ hoy
                  have HNY : EL (rounds L (r + 1)) (q2 Y 4) := ⟨by rw [← hY]; exact HNX.h⟩
                  have HOY := Lib.hid hoy
                  have HQ0 := Lib.hid hQ
                  have HGQ := Lib.hid hgq
                  clear hY hoy hQ hgq HNX HX0 HGX
                  go_wp2
                  go_loopw [55] (fun s55 wq => ∃ i : Nat, i ≤ 4 ∧ s55 = .int .i64 (i : Int) ∧ AR wq g10 73 (q2 Y i) ∧ w5.grownBy wq (some g10)) (fun s55 _ => 4 - (intOf s55).toNat)
                  case atStart => exact ⟨0, by omega, rfl, HQ0.out, HGQ.out⟩
                  case round =>
                    obtain ⟨i, hi, rfl, hQ, hgq⟩ := hrel
                    by_cases hl4 : i < 4
                    · have hokq := q2_ok HOY.out i hi
                      obtain ⟨j4, hj4⟩ : ∃ j4, 4 + (i + 1) % 4 = j4 := ⟨_, rfl⟩
                      obtain ⟨j8, hj8⟩ : ∃ j8, 8 + (i + 2) % 4 = j8 := ⟨_, rfl⟩
                      obtain ⟨j12, hj12⟩ : ∃ j12, 12 + (i + 3) % 4 = j12 := ⟨_, rfl⟩
                      have e4 : 4 + ((i : Int) + 1) % 4 = (j4 : Int) := by omega
                      have e8 : 8 + ((i : Int) + 2) % 4 = (j8 : Int) := by omega
                      have e12 : 12 + ((i : Int) + 3) % 4 = (j12 : Int) := by omega
                      have hix : IX (q2 Y i) i j4 j8 j12 := ⟨hokq.len, by omega, by omega, by omega, by omega, by omega, by omega, by omega, by omega, by omega, by omega⟩
                      obtain ⟨T, hT⟩ : ∃ T, quart (q2 Y i) i j4 j8 j12 = T := ⟨_, rfl⟩
                      have Hst : EL (q2 Y (i + 1)) T := ⟨by rw [← hT, ← hj4, ← hj8, ← hj12]; rfl⟩
                      obtain ⟨v0, ev0, lv0⟩ := hokq.get i hix.hi
                      obtain ⟨v1, ev1, lv1⟩ := hokq.get j4 hix.hj
                      obtain ⟨v2, ev2, lv2⟩ := hokq.get j8 hix.hk
                      obtain ⟨v3, ev3, lv3⟩ := hokq.get j12 hix.hl
                      have hc := quarter_any _ hQ hix ev0 ev1 ev2 ev3 lv0 lv1 lv2 lv3
                      rw [hT] at hc
                      have HCq := Lib.hid hc
                      have Hgq := Lib.hid hgq
                      clear hokq hj4 hj8 hj12 hix hT hc ev0 ev1 ev2 ev3 lv0 lv1 lv2 lv3 hQ hgq
                      go_wp2_with (go_at_call 43; refine HCq.out.mono ?_; rintro e w' ⟨rfl, hQ2, hg2⟩)
                      clear e4 e8 e12 HCq
                      have HQ2 := Lib.hid hQ2
                      have HG2 := Lib.hid (grown_trans Hgq.out hg2)
                      clear hQ2 hg2
                      go_roundw
                      case rel => exact ⟨i + 1, by omega, by go_num, by rw [Hst.h]; exact HQ2.out, HG2.out⟩
                      case measure => simp [intOf]; omega
                    · obtain rfl : i = 4 := by omega
                      rw [show ((4 : Nat) : Int) = 4 from rfl]
                      obtain ⟨Z, hZ⟩ : ∃ Z, q2 Y 4 = Z := ⟨_, rfl⟩
                      rw [hZ] at hQ
                      have HNZ : EL (rounds L (r + 1)) Z := ⟨by rw [← hZ]; exact HNY.h⟩
                      have HQ9 := Lib.hid hQ
                      have HG9 := Lib.hid hgq
                      clear hZ hQ hgq HQ0 HGQ HNY
                      go_wp2
                      go_roundw
                      case rel => exact ⟨r + 1, by omega, by go_num, by rw [HNZ.h]; exact HQ9.out, HG9.out⟩
                      case measure => simp [intOf]; omega
            · obtain rfl : r = 10 := by omega
              rw [show ((10 : Nat) : Int) = 10 from rfl]
              have hox := rounds_ok HOK.out 10
              have hstx : STX (rounds L 10) L d := ⟨HST.out.h⟩
              obtain ⟨X, hXe⟩ : ∃ X, rounds L 10 = X := ⟨_, rfl⟩
              rw [hXe] at hX hox hstx
              have hS6 := HS5.out.grown hgx (by simp; omega)
              have HOX := Lib.hid hox
              have HX6 := Lib.hid hX
              have HS6 := Lib.hid hS6
              have HGX := Lib.hid hgx
              have hg5s := HG5.out.size
              have hgxs := hgx.size
              have l10' := hX.lt
              have hO5 := (HO2.out.grown HG5.out (by simp; omega)).grown hgx (by simp; omega)
              have HO5 := Lib.hid hO5
              have hb5 : Below w.heap.size w wr := (HB2.out.grown HG5.out (by have := HB2.out.size; omega) (fun k hk => by cases hk; omega)).grown hgx (by have := HB2.out.size; omega) (fun k hk => by cases hk; omega)
              have HB5 := Lib.hid hb5
              have hl6 := HO2.out.lt
              obtain ⟨W5, rfl⟩ : ∃ W5, W5 = wr := ⟨wr, rfl⟩
              clear hXe hox hX hgx hS6 hO5 hb5 HST
              go_upto_region 28 with (fail)
              have hZ : AB (W5.alloc (.cells #[.int .u8 0, .int .u8 0, .int .u8 0, .int .u8 0, .int .u8 0, .int .u8 0, .int .u8 0, .int .u8 0, .int .u8 0, .int .u8 0, .int .u8 0, .int .u8 0, .int .u8 0, .int .u8 0, .int .u8 0, .int .u8 0, .int .u8 0, .int .u8 0, .int .u8 0, .int .u8 0, .int .u8 0, .int .u8 0, .int .u8 0, .int .u8 0, .int .u8 0, .int .u8 0, .int .u8 0, .int .u8 0, .int .u8 0, .int .u8 0, .int .u8 0, .int .u8 0, .int .u8 0, .int .u8 0, .int .u8 0, .int .u8 0, .int .u8 0, .int .u8 0, .int .u8 0, .int .u8 0, .int .u8 0, .int .u8 0, .int .u8 0, .int .u8 0, .int .u8 0, .int .u8 0, .int .u8 0, .int .u8 0, .int .u8 0, .int .u8 0, .int .u8 0, .int .u8 0, .int .u8 0, .int .u8 0, .int .u8 0, .int .u8 0, .int .u8 0, .int .u8 0, .int .u8 0, .int .u8 0, .int .u8 0, .int .u8 0, .int .u8 0, .int .u8 0] 63)) W5.heap.size 63 (outC X L 0) := heap_alloc_new W5 _
              have hX7 := HX6.out.al (.cells #[.int .u8 0, .int .u8 0, .int .u8 0, .int .u8 0, .int .u8 0, .int .u8 0, .int .u8 0, .int .u8 0, .int .u8 0, .int .u8 0, .int .u8 0, .int .u8 0, .int .u8 0, .int .u8 0, .int .u8 0, .int .u8 0, .int .u8 0, .int .u8 0, .int .u8 0, .int .u8 0, .int .u8 0, .int .u8 0, .int .u8 0, .int .u8 0, .int .u8 0, .int .u8 0, .int .u8 0, .int .u8 0, .int .u8 0, .int .u8 0, .int .u8 0, .int .u8 0, .int .u8 0, .int .u8 0, .int .u8 0, .int .u8 0, .int .u8 0, .int .u8 0, .int .u8 0, .int .u8 0, .int .u8 0, .int .u8 0, .int .u8 0, .int .u8 0, .int .u8 0, .int .u8 0, .int .u8 0, .int .u8 0, .int .u8 0, .int .u8 0, .int .u8 0, .int .u8 0, .int .u8 0, .int .u8 0, .int .u8 0, .int .u8 0, .int .u8 0, .int .u8 0, .int .u8 0, .int .u8 0, .int .u8 0, .int .u8 0, .int .u8 0, .int .u8 0] 63)
              have hS7 := HS6.out.al (.cells #[.int .u8 0, .int .u8 0, .int .u8 0, .int .u8 0, .int .u8 0, .int .u8 0, .int .u8 0, .int .u8 0, .int .u8 0, .int .u8 0, .int .u8 0, .int .u8 0, .int .u8 0, .int .u8 0, .int .u8 0, .int .u8 0, .int .u8 0, .int .u8 0, .int .u8 0, .int .u8 0, .int .u8 0, .int .u8 0, .int .u8 0, .int .u8 0, .int .u8 0, .int .u8 0, .int .u8 0, .int .u8 0, .int .u8 0, .int .u8 0, .int .u8 0, .int .u8 0, .int .u8 0, .int .u8 0, .int .u8 0, .int .u8 0, .int .u8 0, .int .u8 0, .int .u8 0, .int .u8 0, .int .u8 0, .int .u8 0, .int .u8 0, .int .u8 0, .int .u8 0, .int .u8 0, .int .u8 0, .int .u8 0, .int .u8 0, .int .u8 0, .int .u8 0, .int .u8 0, .int .u8 0, .int .u8 0, .int .u8 0, .int .u8 0, .int .u8 0, .int .u8 0, .int .u8 0, .int .u8 0, .int .u8 0, .int .u8 0, .int .u8 0, .int .u8 0] 63)
              have hO7 := HO5.out.al (.cells #[.int .u8 0, .int .u8 0, .int .u8 0, .int .u8 0, .int .u8 0, .int .u8 0, .int .u8 0, .int .u8 0, .int .u8 0, .int .u8 0, .int .u8 0, .int .u8 0, .int .u8 0, .int .u8 0, .int .u8 0, .int .u8 0, .int .u8 0, .int .u8 0, .int .u8 0, .int .u8 0, .int .u8 0, .int .u8 0, .int .u8 0, .int .u8 0, .int .u8 0, .int .u8 0, .int .u8 0, .int .u8 0, .int .u8 0, .int .u8 0, .int .u8 0, .int .u8 0, .int .u8 0, .int .u8 0, .int .u8 0, .int .u8 0, .int .u8 0, .int .u8 0, .int .u8 0, .int .u8 0, .int .u8 0, .int .u8 0, .int .u8 0, .int .u8 0, .int .u8 0, .int .u8 0, .int .u8 0, .int .u8 0, .int .u8 0, .int .u8 0, .int .u8 0, .int .u8 0, .int .u8 0, .int .u8 0, .int .u8 0, .int .u8 0, .int .u8 0, .int .u8 0, .int .u8 0, .int .u8 0, .int .u8 0, .int .u8 0, .int .u8 0, .int .u8 0] 63)
              have hb7 := HB5.out.alloc HB5.out.size (.cells #[.int .u8 0, .int .u8 0, .int .u8 0, .int .u8 0, .int .u8 0, .int .u8 0, .int .u8 0, .int .u8 0, .int .u8 0, .int .u8 0, .int .u8 0, .int .u8 0, .int .u8 0, .int .u8 0, .int .u8 0, .int .u8 0, .int .u8 0, .int .u8 0, .int .u8 0, .int .u8 0, .int .u8 0, .int .u8 0, .int .u8 0, .int .u8 0, .int .u8 0, .int .u8 0, .int .u8 0, .int .u8 0, .int .u8 0, .int .u8 0, .int .u8 0, .int .u8 0, .int .u8 0, .int .u8 0, .int .u8 0, .int .u8 0, .int .u8 0, .int .u8 0, .int .u8 0, .int .u8 0, .int .u8 0, .int .u8 0, .int .u8 0, .int .u8 0, .int .u8 0, .int .u8 0, .int .u8 0, .int .u8 0, .int .u8 0, .int .u8 0, .int .u8 0, .int .u8 0, .int .u8 0, .int .u8 0, .int .u8 0, .int .u8 0, .int .u8 0, .int .u8 0, .int .u8 0, .int .u8 0, .int .u8 0, .int .u8 0, .int .u8 0, .int .u8 0] 63)
              obtain ⟨g13, hg13⟩ : ∃ g13, W5.heap.size = g13 := ⟨_, rfl⟩
              rw [hg13] at hZ ⊢
              have hsl := fun m hm => run_sliceFrom Try.underlying63 (by kernel_rfl) (by kernel_rfl) szB g13 m hm
              have Hsl := Lib.hid hsl
              have l13 : g10 < g13 := by omega
              have HX7 := Lib.hid hX7
              have HS7 := Lib.hid hS7
              have HO7 := Lib.hid hO7
              have HB7 := Lib.hid hb7
              clear hX7 hS7 hO7 hb7 hsl HX6 HS6 HO5 HB5 hg13
              generalize World.alloc _ _ = W7 at *
              go_wp2
              go_loopw [74] (fun s74 wr => ∃ i : Nat, i ≤ 16 ∧ s74 = .int .i64 (i : Int) ∧ AB wr g13 63 (outC X L i) ∧ W7.grownBy wr (some g13)) (fun s74 _ => 16 - (intOf s74).toNat)
              case atStart => exact ⟨0, by omega, rfl, hZ, World.grownBy.refl W7 _⟩
              case round =>
                obtain ⟨i, hi, rfl, hZ2, hgz⟩ := hrel
                clear hZ
                by_cases hlt16 : i < 16
                · obtain ⟨x, ex, lx⟩ := HOX.out.get i hlt16
                  obtain ⟨y, ey, ly⟩ := HOK.out.get i hlt16
                  have hX8 := HX7.out.grown hgz (by simp; omega)
                  have hS8 := HS7.out.grown hgz (by simp; omega)
                  have q1 := hX8.cell i x ex
                  have q2 := hS8.cell i y ey
                  have lX := hX8.lt
                  have lS := hS8.lt
                  obtain ⟨m4, hm4⟩ : ∃ m4, 4 * i = m4 := ⟨_, rfl⟩
                  obtain ⟨v, hv⟩ : ∃ v, (x + y) % 4294967296 = v := ⟨_, rfl⟩
                  have hstep : EB (outC X L (i + 1)) (putS (outC X L i) m4 v 4) := ⟨by rw [outC, List.getD_eq_getElem?_getD, List.getD_eq_getElem?_getD, ex, ey, ← hm4, ← hv]; rfl⟩
                  have hv32 : v < 4294967296 := by omega
                  have h4i : 4 * (i : Int) = (m4 : Int) := by omega
                  have hvi : ((x : Int) + (y : Int)) % 4294967296 = (v : Int) := by omega
                  have hwv : IntKind.u32.wrap ((x : Int) + (y : Int)) = (v : Int) := by rw [IntKind.wrap_u32']; exact hvi
                  have hwm : IntKind.i64.wrap (m4 : Int) = (m4 : Int) := IntWalk.i64_in _ (by omega)
                  have hsl := Hsl.out m4 (by omega)
                  have hol := outC_len X L i
                  obtain ⟨V, hV⟩ : ∃ V, outC X L i = V := ⟨_, rfl⟩
                  have hZd : AB wr.drew g13 63 V := by rw [← hV]; exact hZ2
                  rw [hV] at hol hstep
                  have hm60 : m4 + 4 ≤ V.length := by omega
                  have hm64 : 4 ≤ 64 - m4 := by omega
                  have HZd := Lib.hid hZd
                  have Hgz := Lib.hid hgz
                  clear hX8 hS8 hm4 hv hol hV hZd hZ2 hgz ex ey
                  go_upto_region 31 with (fail)
                  go_region_held3 (fun w' => w'.cell? ⟨g10, i, none⟩ = some (.int .u32 (x : Int)) ∧ w'.cell? ⟨g7, i, none⟩ = some (.int .u32 (y : Int)))
                    (first | go_keep | exact ⟨k1, k2⟩)
                    (first
                    | (go_at_call 44; (with_reducible refine (put4_any _ HZd.out hm64 hm60 v hv32).mono ?_); rintro e w' ⟨rfl, hZ3, hg3⟩; have k1 : w'.cell? ⟨g10, i, none⟩ = some (.int .u32 (x : Int)) := ((World.cell?_of_block (a := ⟨g10, i, none⟩) (hg3.block g10 lX (by simp; omega))).trans q1); have k2 : w'.cell? ⟨g7, i, none⟩ = some (.int .u32 (y : Int)) := ((World.cell?_of_block (a := ⟨g7, i, none⟩) (hg3.block g7 lS (by simp; omega))).trans q2)))
                  have hgz3 : W7.grownBy w' (some g13) := grown_trans (grown_drew Hgz.out) hg3
                  have HZ3 := Lib.hid hZ3
                  have HG3 := Lib.hid hgz3
                  clear hZ3 hg3 hgz3 k1 k2 q1 q2 hwv hwm hvi h4i hsl
                  go_wp2
                  go_roundw
                  case rel => exact ⟨i + 1, by omega, by go_num, by rw [hstep.h]; exact HZ3.out, HG3.out⟩
                  case measure => simp [intOf]; omega
                · obtain rfl : i = 16 := by omega
                  rw [show ((16 : Nat) : Int) = 16 from rfl]
                  rw [hstx.h] at hZ2
                  have hr := hZ2.rng
                  have h64 : (Try.prog.info? 63).map (·.size) = some (d.map B).length := by rw [List.length_map, hdl]; exact i64B
                  have hO8 := HO7.out.grown hgz (by simp; omega)
                  have hb8 := HB7.out.grown hgz HB7.out.size (fun k hk => by cases hk; omega)
                  have H64 := Lib.hid h64
                  have hi2 := Lib.hid (show (Try.prog.info? 63).map (·.size) = some (d.map B).toArray.size by rw [List.size_toArray]; exact h64)
                  have HB8 := Lib.hid hb8
                  clear hgz hZ2 h64 hb8 hstx
                  go_wp2_with (first
                    | (refine wpList_load_mid rfl _ _ rfl _ _ rfl (d.map B) _ hr Try.underlying63 rfl H64.out ?_)
                    | (refine L_storeAB rfl _ _ _ rfl rfl rfl hO8 i64B (by simp) hdl ?_; intro w9 hO9 hg9))
                  refine bodyPost_ret_by (results_cell_row rfl _ _ _ _ _ _ _ rfl hO9 Try.underlying63 rfl hi2.out) rfl ⟨rfl, ?_⟩
                  exact HB8.out.grown hg9 HB8.out.size (fun k hk => by cases hk; omega)
end Go.Proofs.Ytlncnjcbgfeaoaa
