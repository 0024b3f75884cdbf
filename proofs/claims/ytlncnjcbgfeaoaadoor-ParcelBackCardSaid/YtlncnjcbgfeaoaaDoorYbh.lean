/- the reference's Block. -/
import Derived.Test.YtlncnjcbgfeaoaaDoorYag
import Derived.Test.YtlncnjcbgfeaoaaDoorYat
import Derived.Test.YtlncnjcbgfeaoaaDoorYaz
set_option maxRecDepth 100000
set_option linter.unusedVariables false
namespace Go.Proofs.YtlncnjcbgfeaoaaDoor
open Go.RowKit Go.Joins
theorem z16w : (Z16.map U).toArray = #[.int .u32 0, .int .u32 0, .int .u32 0, .int .u32 0, .int .u32 0, .int .u32 0, .int .u32 0, .int .u32 0, .int .u32 0, .int .u32 0, .int .u32 0, .int .u32 0, .int .u32 0, .int .u32 0, .int .u32 0, .int .u32 0] := rfl
theorem i77 : (Tryd.prog.info? 124).map (·.size) = some 32 := by kernel_rfl
theorem i76 : (Tryd.prog.info? 123).map (·.size) = some 4 := by kernel_rfl
def ordL : List Value := [Value.int .i64 0, Value.int .i64 4, Value.int .i64 8, Value.int .i64 12, Value.int .i64 1, Value.int .i64 5, Value.int .i64 9, Value.int .i64 13, Value.int .i64 2, Value.int .i64 6, Value.int .i64 10, Value.int .i64 14, Value.int .i64 3, Value.int .i64 7, Value.int .i64 11, Value.int .i64 15, Value.int .i64 0, Value.int .i64 5, Value.int .i64 10, Value.int .i64 15, Value.int .i64 1, Value.int .i64 6, Value.int .i64 11, Value.int .i64 12, Value.int .i64 2, Value.int .i64 7, Value.int .i64 8, Value.int .i64 13, Value.int .i64 3, Value.int .i64 4, Value.int .i64 9, Value.int .i64 14]
def ordA : Array Value := ordL.toArray
theorem ordA_all : ordA.all (·.oneCell') = true := by
  rw [Array.all_eq_true_iff_forall_mem]
  unfold ordA ordL
  simp [Value.oneCell']
theorem ordA_size : ordA.size = 32 := by simp [ordA, ordL]
theorem ox0 (W : World) : (Instr.index 124 (.agg ordL.toArray) (.int .i64 0)).run Tryd.prog W = .ok (.agg #[.int .i64 0, .int .i64 4, .int .i64 8, .int .i64 12]) W := by kernel_rfl
theorem ox1 (W : World) : (Instr.index 124 (.agg ordL.toArray) (.int .i64 1)).run Tryd.prog W = .ok (.agg #[.int .i64 1, .int .i64 5, .int .i64 9, .int .i64 13]) W := by kernel_rfl
theorem ox2 (W : World) : (Instr.index 124 (.agg ordL.toArray) (.int .i64 2)).run Tryd.prog W = .ok (.agg #[.int .i64 2, .int .i64 6, .int .i64 10, .int .i64 14]) W := by kernel_rfl
theorem ox3 (W : World) : (Instr.index 124 (.agg ordL.toArray) (.int .i64 3)).run Tryd.prog W = .ok (.agg #[.int .i64 3, .int .i64 7, .int .i64 11, .int .i64 15]) W := by kernel_rfl
theorem ox4 (W : World) : (Instr.index 124 (.agg ordL.toArray) (.int .i64 4)).run Tryd.prog W = .ok (.agg #[.int .i64 0, .int .i64 5, .int .i64 10, .int .i64 15]) W := by kernel_rfl
theorem ox5 (W : World) : (Instr.index 124 (.agg ordL.toArray) (.int .i64 5)).run Tryd.prog W = .ok (.agg #[.int .i64 1, .int .i64 6, .int .i64 11, .int .i64 12]) W := by kernel_rfl
theorem ox6 (W : World) : (Instr.index 124 (.agg ordL.toArray) (.int .i64 6)).run Tryd.prog W = .ok (.agg #[.int .i64 2, .int .i64 7, .int .i64 8, .int .i64 13]) W := by kernel_rfl
theorem ox7 (W : World) : (Instr.index 124 (.agg ordL.toArray) (.int .i64 7)).run Tryd.prog W = .ok (.agg #[.int .i64 3, .int .i64 4, .int .i64 9, .int .i64 14]) W := by kernel_rfl
theorem i77L : (Tryd.prog.info? 124).map (·.size) = some ordL.length := by kernel_rfl
/-- so many of the eight quarters -/
def qN (s : List Nat) : Nat → List Nat
  | 0 => s
  | 1 => quart s 0 4 8 12
  | 2 => quart (quart s 0 4 8 12) 1 5 9 13
  | 3 => quart (quart (quart s 0 4 8 12) 1 5 9 13) 2 6 10 14
  | 4 => q1 s 4
  | k + 5 => q2 (q1 s 4) (k + 1)
theorem qN_0 (s : List Nat) : qN s 1 = quart (qN s 0) 0 4 8 12 := rfl
theorem qN_1 (s : List Nat) : qN s 2 = quart (qN s 1) 1 5 9 13 := rfl
theorem qN_2 (s : List Nat) : qN s 3 = quart (qN s 2) 2 6 10 14 := rfl
theorem qN_3 (s : List Nat) : qN s 4 = quart (qN s 3) 3 7 11 15 := rfl
theorem qN_4 (s : List Nat) : qN s 5 = quart (qN s 4) 0 5 10 15 := rfl
theorem qN_5 (s : List Nat) : qN s 6 = quart (qN s 5) 1 6 11 12 := rfl
theorem qN_6 (s : List Nat) : qN s 7 = quart (qN s 6) 2 7 8 13 := rfl
theorem qN_7 (s : List Nat) : qN s 8 = quart (qN s 7) 3 4 9 14 := rfl
theorem qN_ok {s : List Nat} (h : OKC s) (k : Nat) (hk : k ≤ 8) : OKC (qN s k) := by
  have h1 := h.quart (i := 0) (j := 4) (k := 8) (l := 12) (by decide) (by decide) (by decide) (by decide)
  have h2 := h1.quart (i := 1) (j := 5) (k := 9) (l := 13) (by decide) (by decide) (by decide) (by decide)
  have h3 := h2.quart (i := 2) (j := 6) (k := 10) (l := 14) (by decide) (by decide) (by decide) (by decide)
  match k, hk with
  | 0, _ => exact h
  | 1, _ => exact h1
  | 2, _ => exact h2
  | 3, _ => exact h3
  | 4, _ => exact q1_ok h 4 (by omega)
  | k + 5, hk => exact q2_ok (q1_ok h 4 (by omega)) (k + 1) (by omega)
theorem qN_8 (s : List Nat) : qN s 8 = dbl s := rfl
theorem rv_16 (x : Nat) (hx : x < 4294967296) : bits .or .u32 ((x : Int) * 65536 % 4294967296) ((x : Int) / 65536) = ((rotr x 16 : Nat) : Int) := by
  have h := u32_or_nat (x * 65536 % 4294967296) (x / 65536) (by omega) (by omega)
  rw [show ((x * 65536 % 4294967296 : Nat) : Int) = (x : Int) * 65536 % 4294967296 by omega, show ((x / 65536 : Nat) : Int) = (x : Int) / 65536 by omega] at h
  rw [h]
  unfold rotr
  rw [Nat.or_comm, Nat.shiftRight_eq_div_pow, Nat.shiftLeft_eq]
theorem rv_12 (x : Nat) (hx : x < 4294967296) : bits .or .u32 ((x : Int) * 4096 % 4294967296) ((x : Int) / 1048576) = ((rotr x 20 : Nat) : Int) := by
  have h := u32_or_nat (x * 4096 % 4294967296) (x / 1048576) (by omega) (by omega)
  rw [show ((x * 4096 % 4294967296 : Nat) : Int) = (x : Int) * 4096 % 4294967296 by omega, show ((x / 1048576 : Nat) : Int) = (x : Int) / 1048576 by omega] at h
  rw [h]
  unfold rotr
  rw [Nat.or_comm, Nat.shiftRight_eq_div_pow, Nat.shiftLeft_eq]
theorem rv_8 (x : Nat) (hx : x < 4294967296) : bits .or .u32 ((x : Int) * 256 % 4294967296) ((x : Int) / 16777216) = ((rotr x 24 : Nat) : Int) := by
  have h := u32_or_nat (x * 256 % 4294967296) (x / 16777216) (by omega) (by omega)
  rw [show ((x * 256 % 4294967296 : Nat) : Int) = (x : Int) * 256 % 4294967296 by omega, show ((x / 16777216 : Nat) : Int) = (x : Int) / 16777216 by omega] at h
  rw [h]
  unfold rotr
  rw [Nat.or_comm, Nat.shiftRight_eq_div_pow, Nat.shiftLeft_eq]
theorem rv_7 (x : Nat) (hx : x < 4294967296) : bits .or .u32 ((x : Int) * 128 % 4294967296) ((x : Int) / 33554432) = ((rotr x 25 : Nat) : Int) := by
  have h := u32_or_nat (x * 128 % 4294967296) (x / 33554432) (by omega) (by omega)
  rw [show ((x * 128 % 4294967296 : Nat) : Int) = (x : Int) * 128 % 4294967296 by omega, show ((x / 33554432 : Nat) : Int) = (x : Int) / 33554432 by omega] at h
  rw [h]
  unfold rotr
  rw [Nat.or_comm, Nat.shiftRight_eq_div_pow, Nat.shiftLeft_eq]
theorem quart_eq {T : List Nat} {i j k l va vb vc vd : Nat} (ea : T[i]? = some va) (eb : T[j]? = some vb) (ec : T[k]? = some vc) (ed : T[l]? = some vd) :
    quart T i j k l = S4 T i j k l (qr va vb vc vd).1 (qr va vb vc vd).2.1 (qr va vb vc vd).2.2.1 (qr va vb vc vd).2.2.2 := by
  unfold quart
  simp only [List.getD_eq_getElem?_getD, ea, eb, ec, ed, Option.getD_some]
/-- one block's cells, whatever they are -/
def AV (w : World) (g : Nat) (t : TypeId) (vs : List Value) : Prop := w.heap[g]? = some (.cells vs.toArray t (0, 0))
theorem AV.cell {w : World} {g : Nat} {t : TypeId} {vs : List Value} (h : AV w g t vs) (j : Nat) (v : Value) (hv : vs[j]? = some v) : w.cell? ⟨g, j, none⟩ = some v := by
  unfold AV at h
  simp [World.cell?, h, hv]
/-- a quarter's steps, by letters -/
structure QRs (va vb vc vd a1 x1 d1 c1 y1 b1 a2 x2 d2 c2 y2 b2 : Nat) : Prop where
  h : ((((va : Int) + (vb : Int)) % 4294967296 = (a1 : Int) ∧ a1 < 4294967296) ∧ (bits .xor .u32 (vd : Int) (a1 : Int) = (x1 : Int) ∧ x1 < 4294967296) ∧ (bits .or .u32 ((x1 : Int) * 65536 % 4294967296) ((x1 : Int) / 65536) = (d1 : Int) ∧ d1 < 4294967296) ∧
    (((vc : Int) + (d1 : Int)) % 4294967296 = (c1 : Int) ∧ c1 < 4294967296) ∧ (bits .xor .u32 (vb : Int) (c1 : Int) = (y1 : Int) ∧ y1 < 4294967296) ∧ (bits .or .u32 ((y1 : Int) * 4096 % 4294967296) ((y1 : Int) / 1048576) = (b1 : Int) ∧ b1 < 4294967296) ∧
    (((a1 : Int) + (b1 : Int)) % 4294967296 = (a2 : Int) ∧ a2 < 4294967296) ∧ (bits .xor .u32 (d1 : Int) (a2 : Int) = (x2 : Int) ∧ x2 < 4294967296) ∧ (bits .or .u32 ((x2 : Int) * 256 % 4294967296) ((x2 : Int) / 16777216) = (d2 : Int) ∧ d2 < 4294967296) ∧
    (((c1 : Int) + (d2 : Int)) % 4294967296 = (c2 : Int) ∧ c2 < 4294967296) ∧ (bits .xor .u32 (b1 : Int) (c2 : Int) = (y2 : Int) ∧ y2 < 4294967296) ∧ (bits .or .u32 ((y2 : Int) * 128 % 4294967296) ((y2 : Int) / 33554432) = (b2 : Int) ∧ b2 < 4294967296) ∧
    qr va vb vc vd = (a2, b2, c2, d2))
theorem QRs_ex (va vb vc vd : Nat) (la : va < 4294967296) (lb : vb < 4294967296) (lc : vc < 4294967296) (ld : vd < 4294967296) : ∃ a1 x1 d1 c1 y1 b1 a2 x2 d2 c2 y2 b2, QRs va vb vc vd a1 x1 d1 c1 y1 b1 a2 x2 d2 c2 y2 b2 := by
  have m : ∀ x : Nat, x % 4294967296 < 4294967296 := fun x => Nat.mod_lt _ (by decide)
  have ad : ∀ x y : Nat, ((x : Int) + (y : Int)) % 4294967296 = (((x + y) % 4294967296 : Nat) : Int) := fun x y => by omega
  have la1 := m (va + vb)
  have lx1 := xor_lt32 _ _ ld la1
  have ld1 := rotr_lt _ 16 lx1
  have lc1 := m (vc + rotr (vd ^^^ ((va + vb) % 4294967296)) 16)
  have ly1 := xor_lt32 _ _ lb lc1
  have lb1 := rotr_lt _ 20 ly1
  refine ⟨_, _, _, _, _, _, _, _, _, _, _, _, ⟨⟨ad _ _, la1⟩, ⟨u32_xor_nat _ _ ld la1, lx1⟩, ⟨rv_16 _ lx1, ld1⟩, ⟨ad _ _, lc1⟩, ⟨u32_xor_nat _ _ lb lc1, ly1⟩, ⟨rv_12 _ ly1, lb1⟩, ⟨ad _ _, m _⟩, ⟨u32_xor_nat _ _ ld1 (m _), xor_lt32 _ _ ld1 (m _)⟩, ⟨rv_8 _ (xor_lt32 _ _ ld1 (m _)), rotr_lt _ 24 (xor_lt32 _ _ ld1 (m _))⟩, ⟨ad _ _, m _⟩, ⟨u32_xor_nat _ _ lb1 (m _), xor_lt32 _ _ lb1 (m _)⟩, ⟨rv_7 _ (xor_lt32 _ _ lb1 (m _)), rotr_lt _ 25 (xor_lt32 _ _ lb1 (m _))⟩, rfl⟩⟩
theorem AV.lt {w : World} {g : Nat} {t : TypeId} {vs : List Value} (h : AV w g t vs) : g < w.heap.size := (Array.getElem?_eq_some_iff.1 h).1
theorem AV.grown {w w' : World} {g : Nat} {t : TypeId} {vs : List Value} {row : Option Nat} (h : AV w g t vs) (hg : w.grownBy w' row) (hb : some g ≠ row) : AV w' g t vs := by
  have := hg.block g h.lt hb
  unfold AV at h ⊢
  rw [this]; exact h
theorem AV.rng {w : World} {g : Nat} {t : TypeId} {vs : List Value} (h : AV w g t vs) : w.rangeAt g 0 vs := fun j v hv => by
  unfold AV at h
  simp [World.cell?, h, hv]
/-- which four words the k-th quarter turns -/
structure I4 (i j k l : Nat) : Prop where
  hi : i < 16
  hj : j < 16
  hk : k < 16
  hl : l < 16
  ij : i ≠ j
  ik : i ≠ k
  il : i ≠ l
  jk : j ≠ k
  jl : j ≠ l
  kl : k ≠ l
theorem ord_at (Y : List Nat) (k : Nat) (hk : k < 8) : ∃ ia ib ic id : Nat, I4 ia ib ic id ∧ qN Y (k + 1) = quart (qN Y k) ia ib ic id ∧
    ∀ W, (Instr.index 124 (.agg ordL.toArray) (.int .i64 (k : Int))).run Tryd.prog W = .ok (.agg #[.int .i64 (ia : Int), .int .i64 (ib : Int), .int .i64 (ic : Int), .int .i64 (id : Int)]) W := by
  have hk8 : k = 0 ∨ k = 1 ∨ k = 2 ∨ k = 3 ∨ k = 4 ∨ k = 5 ∨ k = 6 ∨ k = 7 := by omega
  rcases hk8 with rfl | rfl | rfl | rfl | rfl | rfl | rfl | rfl
  · exact ⟨0, 4, 8, 12, ⟨by decide, by decide, by decide, by decide, by decide, by decide, by decide, by decide, by decide, by decide⟩, qN_0 Y, ox0⟩
  · exact ⟨1, 5, 9, 13, ⟨by decide, by decide, by decide, by decide, by decide, by decide, by decide, by decide, by decide, by decide⟩, qN_1 Y, ox1⟩
  · exact ⟨2, 6, 10, 14, ⟨by decide, by decide, by decide, by decide, by decide, by decide, by decide, by decide, by decide, by decide⟩, qN_2 Y, ox2⟩
  · exact ⟨3, 7, 11, 15, ⟨by decide, by decide, by decide, by decide, by decide, by decide, by decide, by decide, by decide, by decide⟩, qN_3 Y, ox3⟩
  · exact ⟨0, 5, 10, 15, ⟨by decide, by decide, by decide, by decide, by decide, by decide, by decide, by decide, by decide, by decide⟩, qN_4 Y, ox4⟩
  · exact ⟨1, 6, 11, 12, ⟨by decide, by decide, by decide, by decide, by decide, by decide, by decide, by decide, by decide, by decide⟩, qN_5 Y, ox5⟩
  · exact ⟨2, 7, 8, 13, ⟨by decide, by decide, by decide, by decide, by decide, by decide, by decide, by decide, by decide, by decide⟩, qN_6 Y, ox6⟩
  · exact ⟨3, 4, 9, 14, ⟨by decide, by decide, by decide, by decide, by decide, by decide, by decide, by decide, by decide, by decide⟩, qN_7 Y, ox7⟩
theorem putS4 (vs : List UInt8) (o x : Nat) (h : o + 4 ≤ vs.length) : putS vs o x 4 = vs.take o ++ leB x ++ vs.drop (o + 4) := by
  obtain ⟨y0, y1, y2, y3, r, hr⟩ : ∃ y0 y1 y2 y3 r, vs.drop o = y0 :: y1 :: y2 :: y3 :: r := by
    have hl : 4 ≤ (vs.drop o).length := by rw [List.length_drop]; omega
    match hd : vs.drop o, hl with
    | y0 :: y1 :: y2 :: y3 :: r, _ => exact ⟨y0, y1, y2, y3, r, rfl⟩
  have hA : (vs.take o).length = o := by rw [List.length_take]; omega
  have hd4 : vs.drop (o + 4) = r := by rw [← List.drop_drop, hr]; rfl
  have he : vs = vs.take o ++ y0 :: y1 :: y2 :: y3 :: r := by rw [← hr, List.take_append_drop]
  rw [hd4]
  obtain ⟨A, hAe⟩ : ∃ A, vs.take o = A := ⟨_, rfl⟩
  rw [hAe] at hA he ⊢
  rw [he]
  simp only [putS]
  rw [List.set_append_right _ _ (by omega), List.set_append_right _ _ (by omega), List.set_append_right _ _ (by omega), List.set_append_right _ _ (by omega), hA]
  rw [show o + 0 - o = 0 by omega, show o + 1 - o = 1 by omega, show o + 2 - o = 2 by omega, show o + 3 - o = 3 by omega]
  simp [leB]
theorem outC_take (X L : List Nat) (i : Nat) : ∀ m, m ≤ 16 → i < m → (outC X L m).take (4 * (i + 1)) = (outC X L m).take (4 * i) ++ leB ((X.getD i 0 + L.getD i 0) % 4294967296) := by
  intro m
  induction m with
  | zero => intro _ h; omega
  | succ m ih =>
    intro hm hi
    have hl := outC_len X L m
    rw [outC, putS4 _ _ _ (by omega)]
    have hA : ((outC X L m).take (4 * m)).length = 4 * m := by rw [List.length_take]; omega
    rcases Nat.lt_or_ge i m with h | h
    · rw [List.append_assoc, List.take_append_of_le_length (by omega), List.take_append_of_le_length (by omega), List.take_take, List.take_take, Nat.min_eq_left (by omega), Nat.min_eq_left (by omega)]
      exact ih (by omega) h
    · obtain rfl : i = m := by omega
      have hB : ((outC X L i).take (4 * i) ++ leB ((X.getD i 0 + L.getD i 0) % 4294967296)).length = 4 * (i + 1) := by rw [List.length_append, hA]; rfl
      rw [List.take_left' hB, List.append_assoc, List.take_left' hA]
structure OQ (d : List UInt8) (X L : List Nat) : Prop where
  h : ∀ i, i < 16 → d.take (4 * (i + 1)) = d.take (4 * i) ++ leB ((X.getD i 0 + L.getD i 0) % 4294967296)
structure WQ (S L : List Nat) : Prop where
  h : S = L
set_option maxHeartbeats 8000000 in
theorem rblock_any (w : World) {a b : Option Addr} {n c m e : Nat} {key nonce d : List UInt8} (hk : BS w a n c key) (hn : BS w b m e nonce) (hkl : key.length = 32) (hnl : nonce.length = 12) (q : Nat) (hq : q < 4294967296) (hD : ST key nonce q d) :
    Calls Tryd.prog 58 #[.slice a n c, .slice b m e, .int .u32 (q : Int)] w fun x w' => ∃ a' c', x = .returned (.slice a' 64 c') ∧ OW w' w.heap.size 5 1 a' 64 c' (d.map B) ∧ Below w.heap.size w w' := by
  have hkn := BS.len hk
  have hnn := BS.len hn
  have hn32 : n = 32 := by omega
  have hm12 : m = 12 := by omega
  subst hn32 hm12
  have hkc := RS.le hk
  have hkm := RS.max hk
  have hnc := RS.le hn
  have hnm := RS.max hn
  unfold maxLen at hkm hnm
  obtain ⟨ba, oa, rfl, hka⟩ := BS.at_ hk (by omega)
  obtain ⟨bb, ob, rfl, hnb⟩ := BS.at_ hn (by omega)
  have lba : ba < w.heap.size := RS.block_lt hk rfl (by omega) (by omega)
  have lbb : bb < w.heap.size := RS.block_lt hn rfl (by omega) (by omega)
  have HKA := Lib.hid hka
  have HNB := Lib.hid hnb
  have hS0 : AR (w.alloc (.cells #[.int .u32 0, .int .u32 0, .int .u32 0, .int .u32 0, .int .u32 0, .int .u32 0, .int .u32 0, .int .u32 0, .int .u32 0, .int .u32 0, .int .u32 0, .int .u32 0, .int .u32 0, .int .u32 0, .int .u32 0, .int .u32 0] 122)) w.heap.size 122 Z16 := heap_alloc_new w _
  have hE : BS ((w.alloc (.cells #[.int .u32 0, .int .u32 0, .int .u32 0, .int .u32 0, .int .u32 0, .int .u32 0, .int .u32 0, .int .u32 0, .int .u32 0, .int .u32 0, .int .u32 0, .int .u32 0, .int .u32 0, .int .u32 0, .int .u32 0, .int .u32 0] 122)).alloc (.cells #[.int .u8 101, .int .u8 120, .int .u8 112, .int .u8 97, .int .u8 110, .int .u8 100, .int .u8 32, .int .u8 51, .int .u8 50, .int .u8 45, .int .u8 98, .int .u8 121, .int .u8 116, .int .u8 101, .int .u8 32, .int .u8 107] 5 (16, 17))) (some ⟨w.heap.size + 1, 0, none⟩) 16 16 expK :=
    BS_lit (w.alloc (.cells #[.int .u32 0, .int .u32 0, .int .u32 0, .int .u32 0, .int .u32 0, .int .u32 0, .int .u32 0, .int .u32 0, .int .u32 0, .int .u32 0, .int .u32 0, .int .u32 0, .int .u32 0, .int .u32 0, .int .u32 0, .int .u32 0] 122)) expK _ _ rfl 16 rfl (by omega) (by simp)
  have v1 := run_convert_bytes_const_at (P := Tryd.prog) (w.alloc (.cells #[.int .u32 0, .int .u32 0, .int .u32 0, .int .u32 0, .int .u32 0, .int .u32 0, .int .u32 0, .int .u32 0, .int .u32 0, .int .u32 0, .int .u32 0, .int .u32 0, .int .u32 0, .int .u32 0, .int .u32 0, .int .u32 0] 122)) 23 5 #[.int .u8 101, .int .u8 120, .int .u8 112, .int .u8 97, .int .u8 110, .int .u8 100, .int .u8 32, .int .u8 51, .int .u8 50, .int .u8 45, .int .u8 98, .int .u8 121, .int .u8 116, .int .u8 101, .int .u8 32, .int .u8 107] 16 16 (w.heap.size + 1) (by simp) Tryd.underlying23 Tryd.underlying5
  clear hka hnb hk hn
  go_enter Tryd.func58, Tryd.ntmps58
  go_upto_region 3 with (fail)
  have hS1 := hS0.al (.cells #[.int .u8 101, .int .u8 120, .int .u8 112, .int .u8 97, .int .u8 110, .int .u8 100, .int .u8 32, .int .u8 51, .int .u8 50, .int .u8 45, .int .u8 98, .int .u8 121, .int .u8 116, .int .u8 101, .int .u8 32, .int .u8 107] 5 (16, 17))
  have lg : w.heap.size ≤ w.heap.size := Nat.le_refl _
  have hb1 : Below w.heap.size w _ := (below_alloc w (.cells #[.int .u32 0, .int .u32 0, .int .u32 0, .int .u32 0, .int .u32 0, .int .u32 0, .int .u32 0, .int .u32 0, .int .u32 0, .int .u32 0, .int .u32 0, .int .u32 0, .int .u32 0, .int .u32 0, .int .u32 0, .int .u32 0] 122)).alloc (by simp) (.cells #[.int .u8 101, .int .u8 120, .int .u8 112, .int .u8 97, .int .u8 110, .int .u8 100, .int .u8 32, .int .u8 51, .int .u8 50, .int .u8 45, .int .u8 98, .int .u8 121, .int .u8 116, .int .u8 101, .int .u8 32, .int .u8 107] 5 (16, 17))
  clear hS0 v1
  generalize (World.alloc _ _) = W1 at *
  obtain ⟨g, hg⟩ : ∃ g, w.heap.size = g := ⟨_, rfl⟩
  have lE : g + 1 < W1.heap.size := by have := RS.block_lt hE rfl (by omega) (by omega); rw [← hg]; exact this
  rw [hg] at hE hS1
  rw [hg]
  have lg : w.heap.size ≤ g := by omega
  have HE := Lib.hid (BS.at_ hE (by omega))
  have hE2 : ∀ j x, expK[j]? = some x → W1.cell? ⟨g + 1, j, none⟩ = some (.int .u8 (x.toNat : Int)) := fun j x hx => by
    have := RS.cells hE rfl j (B x) (by rw [List.getElem?_map, hx]; rfl)
    rw [add_plain rfl, Nat.zero_add] at this
    exact this
  have HE2 := Lib.hid hE2
  have hS1' : AR W1 g 122 (updB Z16 0 expK 0) := by rw [updB_zero _ _ _ rfl]; exact hS1
  have HS1 := Lib.hid hS1'
  have HB1 := Lib.hid hb1
  clear hE hE2 hS1 hS1' hb1 hg HE
  go_loopw [28] (fun s28 wr => ∃ i : Nat, i ≤ 16 ∧ s28 = .int .i64 (i : Int) ∧ AR wr g 122 (updB Z16 0 expK i) ∧ Below w.heap.size w wr ∧ W1.grownBy wr (some g)) (fun s28 _ => 16 - (intOf s28).toNat)
  case atStart => exact ⟨0, by omega, rfl, HS1.out, HB1.out, World.grownBy.refl W1 _⟩
  case round =>
    obtain ⟨i, hi, rfl, hs, hb, hgr⟩ := hrel
    by_cases hlt : i < 16
    · obtain ⟨x, ex⟩ : ∃ x, expK[i]? = some x := ⟨_, List.getElem?_eq_getElem (by show i < 16; omega)⟩
      have q0 := (World.cell?_of_block (a := ⟨g + 1, i, none⟩) (hgr.block (g + 1) lE (by simp))).trans (HE2.out i x ex)
      obtain ⟨v, hv⟩ : ∃ v, i / 4 = v := ⟨_, rfl⟩
      have hvd : (i : Int).tdiv 4 = (v : Int) := by rw [Int.tdiv_eq_ediv_of_nonneg (by omega)]; omega
      have hv16 : v < 16 := by omega
      have hxl := x.toNat_lt
      have hr4 : i % 4 = 0 ∨ i % 4 = 1 ∨ i % 4 = 2 ∨ i % 4 = 3 := by omega
      rcases hr4 with hr | hr | hr | hr
      · as_aux_lemma =>
        have hi4 : i = 4 * v + 0 := by omega
        have hrm : (i : Int).tmod 4 = 0 := by rw [Int.tmod_eq_emod_of_nonneg (by omega)]; omega
        have hold := updB_old Z16 0 expK v 0 (by decide) (by omega) (Z16_zero v (by omega))
        have hset := updB_set Z16 0 expK v 0 x (by decide) (by omega) (by rw [← hi4]; exact ex)
        have hwl := wpB_lt expK v 0 (by decide)
        rw [← hi4] at hold hset hwl
        rw [Nat.zero_add] at hold hset
        obtain ⟨y, hy⟩ : ∃ y, wpB expK i v = y := ⟨_, rfl⟩
        obtain ⟨z, hz⟩ : ∃ z, x.toNat = z := ⟨_, rfl⟩
        rw [hy] at hold hset hwl
        rw [hz] at hset hxl q0
        have q1 := hs.cell v y hold
        have f1 := hs.fr v
        have hs2 := hs.set_ v (y + 256 ^ 0 * z)
        rw [hset, show (((y + 256 ^ 0 * z : Nat)) : Int) = (y : Int) + (z : Int) by omega] at hs2
        have hb2 := hb.grown (grownBy_setCell wr ⟨g, v, none⟩ (.int .u32 ((y : Int) + (z : Int)))) hb.size (fun k hk => by cases hk; exact lg)
        have HS2 := Lib.hid hs2
        have HB2 := Lib.hid hb2
        have HG2 := Lib.hid (grown_set hgr v (.int .u32 ((y : Int) + (z : Int))))
        have hwl2 : y < 1 := hwl
        clear hwl hold hset hy hz hs hb hgr hr hi4 ex hs2 hb2 hv
        go_wp2
        go_roundw
        case rel => exact ⟨i + 1, by omega, by go_num, HS2.out, HB2.out, HG2.out⟩
        case measure => simp [intOf]; omega
      · as_aux_lemma =>
        have hi4 : i = 4 * v + 1 := by omega
        have hrm : (i : Int).tmod 4 = 1 := by rw [Int.tmod_eq_emod_of_nonneg (by omega)]; omega
        have hold := updB_old Z16 0 expK v 1 (by decide) (by omega) (Z16_zero v (by omega))
        have hset := updB_set Z16 0 expK v 1 x (by decide) (by omega) (by rw [← hi4]; exact ex)
        have hwl := wpB_lt expK v 1 (by decide)
        rw [← hi4] at hold hset hwl
        rw [Nat.zero_add] at hold hset
        obtain ⟨y, hy⟩ : ∃ y, wpB expK i v = y := ⟨_, rfl⟩
        obtain ⟨z, hz⟩ : ∃ z, x.toNat = z := ⟨_, rfl⟩
        rw [hy] at hold hset hwl
        rw [hz] at hset hxl q0
        have q1 := hs.cell v y hold
        have f1 := hs.fr v
        have hs2 := hs.set_ v (y + 256 ^ 1 * z)
        rw [hset, show (((y + 256 ^ 1 * z : Nat)) : Int) = (y : Int) + (z : Int) * 256 by omega] at hs2
        have hb2 := hb.grown (grownBy_setCell wr ⟨g, v, none⟩ (.int .u32 ((y : Int) + (z : Int) * 256))) hb.size (fun k hk => by cases hk; exact lg)
        have HS2 := Lib.hid hs2
        have HB2 := Lib.hid hb2
        have HG2 := Lib.hid (grown_set hgr v (.int .u32 ((y : Int) + (z : Int) * 256)))
        have hwl2 : y < 256 := hwl
        clear hwl hold hset hy hz hs hb hgr hr hi4 ex hs2 hb2 hv
        go_wp2
        go_roundw
        case rel => exact ⟨i + 1, by omega, by go_num, HS2.out, HB2.out, HG2.out⟩
        case measure => simp [intOf]; omega
      · as_aux_lemma =>
        have hi4 : i = 4 * v + 2 := by omega
        have hrm : (i : Int).tmod 4 = 2 := by rw [Int.tmod_eq_emod_of_nonneg (by omega)]; omega
        have hold := updB_old Z16 0 expK v 2 (by decide) (by omega) (Z16_zero v (by omega))
        have hset := updB_set Z16 0 expK v 2 x (by decide) (by omega) (by rw [← hi4]; exact ex)
        have hwl := wpB_lt expK v 2 (by decide)
        rw [← hi4] at hold hset hwl
        rw [Nat.zero_add] at hold hset
        obtain ⟨y, hy⟩ : ∃ y, wpB expK i v = y := ⟨_, rfl⟩
        obtain ⟨z, hz⟩ : ∃ z, x.toNat = z := ⟨_, rfl⟩
        rw [hy] at hold hset hwl
        rw [hz] at hset hxl q0
        have q1 := hs.cell v y hold
        have f1 := hs.fr v
        have hs2 := hs.set_ v (y + 256 ^ 2 * z)
        rw [hset, show (((y + 256 ^ 2 * z : Nat)) : Int) = (y : Int) + (z : Int) * 65536 by omega] at hs2
        have hb2 := hb.grown (grownBy_setCell wr ⟨g, v, none⟩ (.int .u32 ((y : Int) + (z : Int) * 65536))) hb.size (fun k hk => by cases hk; exact lg)
        have HS2 := Lib.hid hs2
        have HB2 := Lib.hid hb2
        have HG2 := Lib.hid (grown_set hgr v (.int .u32 ((y : Int) + (z : Int) * 65536)))
        have hwl2 : y < 65536 := hwl
        clear hwl hold hset hy hz hs hb hgr hr hi4 ex hs2 hb2 hv
        go_wp2
        go_roundw
        case rel => exact ⟨i + 1, by omega, by go_num, HS2.out, HB2.out, HG2.out⟩
        case measure => simp [intOf]; omega
      · as_aux_lemma =>
        have hi4 : i = 4 * v + 3 := by omega
        have hrm : (i : Int).tmod 4 = 3 := by rw [Int.tmod_eq_emod_of_nonneg (by omega)]; omega
        have hold := updB_old Z16 0 expK v 3 (by decide) (by omega) (Z16_zero v (by omega))
        have hset := updB_set Z16 0 expK v 3 x (by decide) (by omega) (by rw [← hi4]; exact ex)
        have hwl := wpB_lt expK v 3 (by decide)
        rw [← hi4] at hold hset hwl
        rw [Nat.zero_add] at hold hset
        obtain ⟨y, hy⟩ : ∃ y, wpB expK i v = y := ⟨_, rfl⟩
        obtain ⟨z, hz⟩ : ∃ z, x.toNat = z := ⟨_, rfl⟩
        rw [hy] at hold hset hwl
        rw [hz] at hset hxl q0
        have q1 := hs.cell v y hold
        have f1 := hs.fr v
        have hs2 := hs.set_ v (y + 256 ^ 3 * z)
        rw [hset, show (((y + 256 ^ 3 * z : Nat)) : Int) = (y : Int) + (z : Int) * 16777216 by omega] at hs2
        have hb2 := hb.grown (grownBy_setCell wr ⟨g, v, none⟩ (.int .u32 ((y : Int) + (z : Int) * 16777216))) hb.size (fun k hk => by cases hk; exact lg)
        have HS2 := Lib.hid hs2
        have HB2 := Lib.hid hb2
        have HG2 := Lib.hid (grown_set hgr v (.int .u32 ((y : Int) + (z : Int) * 16777216)))
        have hwl2 : y < 16777216 := hwl
        clear hwl hold hset hy hz hs hb hgr hr hi4 ex hs2 hb2 hv
        go_wp2
        go_roundw
        case rel => exact ⟨i + 1, by omega, by go_num, HS2.out, HB2.out, HG2.out⟩
        case measure => simp [intOf]; omega
    · have hie : i = 16 := by omega
      rw [hie] at hs
      clear hie
      rw [show updB Z16 0 expK 16 = st1 from rfl] at hs
      obtain ⟨S1, hS1e⟩ : ∃ S1, st1 = S1 := ⟨_, rfl⟩
      have hz1 := fun v (h : v < 12) => st1_zero v h
      have hl1 : st1.length = 16 := updB_len _ _ _ _
      rw [hS1e] at hs hl1
      simp only [hS1e] at hz1
      have HSe1 : WQ st1 S1 := ⟨hS1e⟩
      have Hz1 := Lib.hid hz1
      have hs' : AR wr g 122 (updB S1 4 key 0) := by rw [updB_zero _ _ _ hl1]; exact hs
      have HS2 := Lib.hid hs'
      have HB2 := Lib.hid hb
      clear hs hb hgr hs' hS1e hz1 hl1 HE2
      generalize wr = W2 at *
      go_upto_region 8 with (fail)
      go_loopw [49] (fun s49 wr => ∃ i : Nat, i ≤ 32 ∧ s49 = .int .i64 (i : Int) ∧ AR wr g 122 (updB S1 4 key i) ∧ Below w.heap.size w wr) (fun s49 _ => 32 - (intOf s49).toNat)
      case atStart => exact ⟨0, by omega, rfl, HS2.out, HB2.out⟩
      case round =>
        obtain ⟨i, hi, rfl, hs, hb⟩ := hrel
        by_cases hlt : i < 32
        · obtain ⟨x, ex⟩ : ∃ x, key[i]? = some x := ⟨_, List.getElem?_eq_getElem (by omega)⟩
          have q0 := (hb.cell (p := ⟨ba, oa + i, none⟩) lba).trans (HKA.out i x ex)
          obtain ⟨v, hv⟩ : ∃ v, i / 4 = v := ⟨_, rfl⟩
          have hvd : (i : Int).tdiv 4 = (v : Int) := by rw [Int.tdiv_eq_ediv_of_nonneg (by omega)]; omega
          obtain ⟨u, hu⟩ : ∃ u, 4 + v = u := ⟨_, rfl⟩
          have hui : (4 : Int) + (v : Int) = (u : Int) := by omega
          have hu16 : u < 16 := by omega
          have hxl := x.toNat_lt
          have hr4 : i % 4 = 0 ∨ i % 4 = 1 ∨ i % 4 = 2 ∨ i % 4 = 3 := by omega
          rcases hr4 with hr | hr | hr | hr
          · as_aux_lemma =>
            have hi4 : i = 4 * v + 0 := by omega
            have hrm : (i : Int).tmod 4 = 0 := by rw [Int.tmod_eq_emod_of_nonneg (by omega)]; omega
            have hold := updB_old S1 4 key v 0 (by decide) (by omega) (Hz1.out v (by omega))
            have hset := updB_set S1 4 key v 0 x (by decide) (by omega) (by rw [← hi4]; exact ex)
            have hwl := wpB_lt key v 0 (by decide)
            rw [← hi4] at hold hset hwl
            rw [hu] at hold hset
            obtain ⟨y, hy⟩ : ∃ y, wpB key i v = y := ⟨_, rfl⟩
            obtain ⟨z, hz⟩ : ∃ z, x.toNat = z := ⟨_, rfl⟩
            rw [hy] at hold hset hwl
            rw [hz] at hset hxl q0
            have q1 := hs.cell u y hold
            have f1 := hs.fr u
            have hs2 := hs.set_ u (y + 256 ^ 0 * z)
            rw [hset, show (((y + 256 ^ 0 * z : Nat)) : Int) = (y : Int) + (z : Int) by omega] at hs2
            have hb2 := hb.grown (grownBy_setCell wr ⟨g, u, none⟩ (.int .u32 ((y : Int) + (z : Int)))) hb.size (fun k hk => by cases hk; exact lg)
            have HS2 := Lib.hid hs2
            have HB2 := Lib.hid hb2
            have hwl2 : y < 1 := hwl
            clear hwl hold hset hy hz hs hb hr hi4 ex hs2 hb2 hv hu
            go_wp2
            go_roundw
            case rel => exact ⟨i + 1, by omega, by go_num, HS2.out, HB2.out⟩
            case measure => simp [intOf]; omega
          · as_aux_lemma =>
            have hi4 : i = 4 * v + 1 := by omega
            have hrm : (i : Int).tmod 4 = 1 := by rw [Int.tmod_eq_emod_of_nonneg (by omega)]; omega
            have hold := updB_old S1 4 key v 1 (by decide) (by omega) (Hz1.out v (by omega))
            have hset := updB_set S1 4 key v 1 x (by decide) (by omega) (by rw [← hi4]; exact ex)
            have hwl := wpB_lt key v 1 (by decide)
            rw [← hi4] at hold hset hwl
            rw [hu] at hold hset
            obtain ⟨y, hy⟩ : ∃ y, wpB key i v = y := ⟨_, rfl⟩
            obtain ⟨z, hz⟩ : ∃ z, x.toNat = z := ⟨_, rfl⟩
            rw [hy] at hold hset hwl
            rw [hz] at hset hxl q0
            have q1 := hs.cell u y hold
            have f1 := hs.fr u
            have hs2 := hs.set_ u (y + 256 ^ 1 * z)
            rw [hset, show (((y + 256 ^ 1 * z : Nat)) : Int) = (y : Int) + (z : Int) * 256 by omega] at hs2
            have hb2 := hb.grown (grownBy_setCell wr ⟨g, u, none⟩ (.int .u32 ((y : Int) + (z : Int) * 256))) hb.size (fun k hk => by cases hk; exact lg)
            have HS2 := Lib.hid hs2
            have HB2 := Lib.hid hb2
            have hwl2 : y < 256 := hwl
            clear hwl hold hset hy hz hs hb hr hi4 ex hs2 hb2 hv hu
            go_wp2
            go_roundw
            case rel => exact ⟨i + 1, by omega, by go_num, HS2.out, HB2.out⟩
            case measure => simp [intOf]; omega
          · as_aux_lemma =>
            have hi4 : i = 4 * v + 2 := by omega
            have hrm : (i : Int).tmod 4 = 2 := by rw [Int.tmod_eq_emod_of_nonneg (by omega)]; omega
            have hold := updB_old S1 4 key v 2 (by decide) (by omega) (Hz1.out v (by omega))
            have hset := updB_set S1 4 key v 2 x (by decide) (by omega) (by rw [← hi4]; exact ex)
            have hwl := wpB_lt key v 2 (by decide)
            rw [← hi4] at hold hset hwl
            rw [hu] at hold hset
            obtain ⟨y, hy⟩ : ∃ y, wpB key i v = y := ⟨_, rfl⟩
            obtain ⟨z, hz⟩ : ∃ z, x.toNat = z := ⟨_, rfl⟩
            rw [hy] at hold hset hwl
            rw [hz] at hset hxl q0
            have q1 := hs.cell u y hold
            have f1 := hs.fr u
            have hs2 := hs.set_ u (y + 256 ^ 2 * z)
            rw [hset, show (((y + 256 ^ 2 * z : Nat)) : Int) = (y : Int) + (z : Int) * 65536 by omega] at hs2
            have hb2 := hb.grown (grownBy_setCell wr ⟨g, u, none⟩ (.int .u32 ((y : Int) + (z : Int) * 65536))) hb.size (fun k hk => by cases hk; exact lg)
            have HS2 := Lib.hid hs2
            have HB2 := Lib.hid hb2
            have hwl2 : y < 65536 := hwl
            clear hwl hold hset hy hz hs hb hr hi4 ex hs2 hb2 hv hu
            go_wp2
            go_roundw
            case rel => exact ⟨i + 1, by omega, by go_num, HS2.out, HB2.out⟩
            case measure => simp [intOf]; omega
          · as_aux_lemma =>
            have hi4 : i = 4 * v + 3 := by omega
            have hrm : (i : Int).tmod 4 = 3 := by rw [Int.tmod_eq_emod_of_nonneg (by omega)]; omega
            have hold := updB_old S1 4 key v 3 (by decide) (by omega) (Hz1.out v (by omega))
            have hset := updB_set S1 4 key v 3 x (by decide) (by omega) (by rw [← hi4]; exact ex)
            have hwl := wpB_lt key v 3 (by decide)
            rw [← hi4] at hold hset hwl
            rw [hu] at hold hset
            obtain ⟨y, hy⟩ : ∃ y, wpB key i v = y := ⟨_, rfl⟩
            obtain ⟨z, hz⟩ : ∃ z, x.toNat = z := ⟨_, rfl⟩
            rw [hy] at hold hset hwl
            rw [hz] at hset hxl q0
            have q1 := hs.cell u y hold
            have f1 := hs.fr u
            have hs2 := hs.set_ u (y + 256 ^ 3 * z)
            rw [hset, show (((y + 256 ^ 3 * z : Nat)) : Int) = (y : Int) + (z : Int) * 16777216 by omega] at hs2
            have hb2 := hb.grown (grownBy_setCell wr ⟨g, u, none⟩ (.int .u32 ((y : Int) + (z : Int) * 16777216))) hb.size (fun k hk => by cases hk; exact lg)
            have HS2 := Lib.hid hs2
            have HB2 := Lib.hid hb2
            have hwl2 : y < 16777216 := hwl
            clear hwl hold hset hy hz hs hb hr hi4 ex hs2 hb2 hv hu
            go_wp2
            go_roundw
            case rel => exact ⟨i + 1, by omega, by go_num, HS2.out, HB2.out⟩
            case measure => simp [intOf]; omega
        · have hie : i = 32 := by omega
          rw [hie] at hs
          clear hie
          rw [show updB S1 4 key 32 = st2 key by unfold st2; rw [HSe1.h]] at hs
          obtain ⟨S2, hS2⟩ : ∃ S2, st2 key = S2 := ⟨_, rfl⟩
          have hl2 : (st2 key).length = 16 := updB_len _ _ _ _
          obtain ⟨S3, hS3⟩ : ∃ S3, st3 key q = S3 := ⟨_, rfl⟩
          have hz3 := fun v (h : v < 3) => st3_zero key q v h
          have hs3 := hs.set_ 12 q
          have q1 : ∃ y, (st2 key)[12]? = some y := ⟨_, List.getElem?_eq_getElem (by omega)⟩
          obtain ⟨y12, hy12⟩ := q1
          have q1 := hs.cell 12 y12 hy12
          have f1 := hs.fr 12
          have hb3 := hb.grown (grownBy_setCell wr ⟨g, 12, none⟩ (.int .u32 (q : Int))) hb.size (fun k hk => by cases hk; exact lg)
          rw [show (st2 key).set 12 q = st3 key q from rfl, hS3] at hs3
          simp only [hS3] at hz3
          have hl3 : S3.length = 16 := by rw [← hS3]; unfold st3; rw [List.length_set]; exact hl2
          have HSe2 : WQ (st3 key q) S3 := ⟨hS3⟩
          have Hz3 := Lib.hid hz3
          have hs3' : AR (wr.setCell ⟨g, 12, none⟩ (.int .u32 (q : Int))) g 122 (updB S3 13 nonce 0) := by rw [updB_zero _ _ _ hl3]; exact hs3
          have HS3 := Lib.hid hs3'
          have HB3 := Lib.hid hb3
          clear hs hb hS2 hl2 hS3 hz3 hs3 hs3' hb3 hy12 Hz1
          go_upto_region 14 with (fail)
          clear q1 f1
          generalize (World.setCell _ _ _) = W3 at *
          go_loopw [73] (fun s73 wr => ∃ i : Nat, i ≤ 12 ∧ s73 = .int .i64 (i : Int) ∧ AR wr g 122 (updB S3 13 nonce i) ∧ Below w.heap.size w wr) (fun s73 _ => 12 - (intOf s73).toNat)
          case atStart => exact ⟨0, by omega, rfl, HS3.out, HB3.out⟩
          case round =>
            obtain ⟨i, hi, rfl, hs, hb⟩ := hrel
            by_cases hlt : i < 12
            · obtain ⟨x, ex⟩ : ∃ x, nonce[i]? = some x := ⟨_, List.getElem?_eq_getElem (by omega)⟩
              have q0 := (hb.cell (p := ⟨bb, ob + i, none⟩) lbb).trans (HNB.out i x ex)
              obtain ⟨v, hv⟩ : ∃ v, i / 4 = v := ⟨_, rfl⟩
              have hvd : (i : Int).tdiv 4 = (v : Int) := by rw [Int.tdiv_eq_ediv_of_nonneg (by omega)]; omega
              obtain ⟨u, hu⟩ : ∃ u, 13 + v = u := ⟨_, rfl⟩
              have hui : (13 : Int) + (v : Int) = (u : Int) := by omega
              have hu16 : u < 16 := by omega
              have hxl := x.toNat_lt
              have hr4 : i % 4 = 0 ∨ i % 4 = 1 ∨ i % 4 = 2 ∨ i % 4 = 3 := by omega
              rcases hr4 with hr | hr | hr | hr
              · as_aux_lemma =>
                have hi4 : i = 4 * v + 0 := by omega
                have hrm : (i : Int).tmod 4 = 0 := by rw [Int.tmod_eq_emod_of_nonneg (by omega)]; omega
                have hold := updB_old S3 13 nonce v 0 (by decide) (by omega) (Hz3.out v (by omega))
                have hset := updB_set S3 13 nonce v 0 x (by decide) (by omega) (by rw [← hi4]; exact ex)
                have hwl := wpB_lt nonce v 0 (by decide)
                rw [← hi4] at hold hset hwl
                rw [hu] at hold hset
                obtain ⟨y, hy⟩ : ∃ y, wpB nonce i v = y := ⟨_, rfl⟩
                obtain ⟨z, hz⟩ : ∃ z, x.toNat = z := ⟨_, rfl⟩
                rw [hy] at hold hset hwl
                rw [hz] at hset hxl q0
                have q1 := hs.cell u y hold
                have f1 := hs.fr u
                have hs2 := hs.set_ u (y + 256 ^ 0 * z)
                rw [hset, show (((y + 256 ^ 0 * z : Nat)) : Int) = (y : Int) + (z : Int) by omega] at hs2
                have hb2 := hb.grown (grownBy_setCell wr ⟨g, u, none⟩ (.int .u32 ((y : Int) + (z : Int)))) hb.size (fun k hk => by cases hk; exact lg)
                have HS2 := Lib.hid hs2
                have HB2 := Lib.hid hb2
                have hwl2 : y < 1 := hwl
                clear hwl hold hset hy hz hs hb hr hi4 ex hs2 hb2 hv hu
                go_wp2
                go_roundw
                case rel => exact ⟨i + 1, by omega, by go_num, HS2.out, HB2.out⟩
                case measure => simp [intOf]; omega
              · as_aux_lemma =>
                have hi4 : i = 4 * v + 1 := by omega
                have hrm : (i : Int).tmod 4 = 1 := by rw [Int.tmod_eq_emod_of_nonneg (by omega)]; omega
                have hold := updB_old S3 13 nonce v 1 (by decide) (by omega) (Hz3.out v (by omega))
                have hset := updB_set S3 13 nonce v 1 x (by decide) (by omega) (by rw [← hi4]; exact ex)
                have hwl := wpB_lt nonce v 1 (by decide)
                rw [← hi4] at hold hset hwl
                rw [hu] at hold hset
                obtain ⟨y, hy⟩ : ∃ y, wpB nonce i v = y := ⟨_, rfl⟩
                obtain ⟨z, hz⟩ : ∃ z, x.toNat = z := ⟨_, rfl⟩
                rw [hy] at hold hset hwl
                rw [hz] at hset hxl q0
                have q1 := hs.cell u y hold
                have f1 := hs.fr u
                have hs2 := hs.set_ u (y + 256 ^ 1 * z)
                rw [hset, show (((y + 256 ^ 1 * z : Nat)) : Int) = (y : Int) + (z : Int) * 256 by omega] at hs2
                have hb2 := hb.grown (grownBy_setCell wr ⟨g, u, none⟩ (.int .u32 ((y : Int) + (z : Int) * 256))) hb.size (fun k hk => by cases hk; exact lg)
                have HS2 := Lib.hid hs2
                have HB2 := Lib.hid hb2
                have hwl2 : y < 256 := hwl
                clear hwl hold hset hy hz hs hb hr hi4 ex hs2 hb2 hv hu
                go_wp2
                go_roundw
                case rel => exact ⟨i + 1, by omega, by go_num, HS2.out, HB2.out⟩
                case measure => simp [intOf]; omega
              · as_aux_lemma =>
                have hi4 : i = 4 * v + 2 := by omega
                have hrm : (i : Int).tmod 4 = 2 := by rw [Int.tmod_eq_emod_of_nonneg (by omega)]; omega
                have hold := updB_old S3 13 nonce v 2 (by decide) (by omega) (Hz3.out v (by omega))
                have hset := updB_set S3 13 nonce v 2 x (by decide) (by omega) (by rw [← hi4]; exact ex)
                have hwl := wpB_lt nonce v 2 (by decide)
                rw [← hi4] at hold hset hwl
                rw [hu] at hold hset
                obtain ⟨y, hy⟩ : ∃ y, wpB nonce i v = y := ⟨_, rfl⟩
                obtain ⟨z, hz⟩ : ∃ z, x.toNat = z := ⟨_, rfl⟩
                rw [hy] at hold hset hwl
                rw [hz] at hset hxl q0
                have q1 := hs.cell u y hold
                have f1 := hs.fr u
                have hs2 := hs.set_ u (y + 256 ^ 2 * z)
                rw [hset, show (((y + 256 ^ 2 * z : Nat)) : Int) = (y : Int) + (z : Int) * 65536 by omega] at hs2
                have hb2 := hb.grown (grownBy_setCell wr ⟨g, u, none⟩ (.int .u32 ((y : Int) + (z : Int) * 65536))) hb.size (fun k hk => by cases hk; exact lg)
                have HS2 := Lib.hid hs2
                have HB2 := Lib.hid hb2
                have hwl2 : y < 65536 := hwl
                clear hwl hold hset hy hz hs hb hr hi4 ex hs2 hb2 hv hu
                go_wp2
                go_roundw
                case rel => exact ⟨i + 1, by omega, by go_num, HS2.out, HB2.out⟩
                case measure => simp [intOf]; omega
              · as_aux_lemma =>
                have hi4 : i = 4 * v + 3 := by omega
                have hrm : (i : Int).tmod 4 = 3 := by rw [Int.tmod_eq_emod_of_nonneg (by omega)]; omega
                have hold := updB_old S3 13 nonce v 3 (by decide) (by omega) (Hz3.out v (by omega))
                have hset := updB_set S3 13 nonce v 3 x (by decide) (by omega) (by rw [← hi4]; exact ex)
                have hwl := wpB_lt nonce v 3 (by decide)
                rw [← hi4] at hold hset hwl
                rw [hu] at hold hset
                obtain ⟨y, hy⟩ : ∃ y, wpB nonce i v = y := ⟨_, rfl⟩
                obtain ⟨z, hz⟩ : ∃ z, x.toNat = z := ⟨_, rfl⟩
                rw [hy] at hold hset hwl
                rw [hz] at hset hxl q0
                have q1 := hs.cell u y hold
                have f1 := hs.fr u
                have hs2 := hs.set_ u (y + 256 ^ 3 * z)
                rw [hset, show (((y + 256 ^ 3 * z : Nat)) : Int) = (y : Int) + (z : Int) * 16777216 by omega] at hs2
                have hb2 := hb.grown (grownBy_setCell wr ⟨g, u, none⟩ (.int .u32 ((y : Int) + (z : Int) * 16777216))) hb.size (fun k hk => by cases hk; exact lg)
                have HS2 := Lib.hid hs2
                have HB2 := Lib.hid hb2
                have hwl2 : y < 16777216 := hwl
                clear hwl hold hset hy hz hs hb hr hi4 ex hs2 hb2 hv hu
                go_wp2
                go_roundw
                case rel => exact ⟨i + 1, by omega, by go_num, HS2.out, HB2.out⟩
                case measure => simp [intOf]; omega
            · have hie : i = 12 := by omega
              rw [hie] at hs
              clear hie
              have hL4 := st4_eq hkl hnl q
              rw [HSe2.h] at hL4
              rw [hL4] at hs
              have hres := hD.h
              have hok := initC_ok key nonce q hq
              obtain ⟨L, hL⟩ : ∃ L, initC key nonce q = L := ⟨_, rfl⟩
              rw [hL] at hs hres hok
              have HOK := Lib.hid hok
              have Hres := STL.mk hres
              have HS := Lib.hid hs
              have HB := Lib.hid hb
              clear hs hb hL4 hres hok hL HKA HNB
              have hLl := HOK.out.len
              have hr7 := HS.out.rng
              have hi16 := Lib.hid (show (Tryd.prog.info? 122).map (·.size) = some (L.map U).length by rw [List.length_map, hLl]; kernel_rfl)
              have iR : (Tryd.prog.info? 122).map (·.size) = some 16 := by kernel_rfl
              have lgw := HS.out.lt
              go_upto_region 19 with (first
                | (refine wpList_load_mid rfl _ _ rfl _ _ rfl (L.map U) _ hr7 Tryd.underlying122 rfl hi16.out ?_)
                | (refine L_storeR rfl _ _ _ rfl L rfl rfl (show AR (wr.alloc _) wr.heap.size 122 Z16 from heap_alloc_new wr _) iR rfl hLl ?_; intro w5 hX5 hg5))
              have z4 := HB.out.size
              have b5 : Below wr.heap.size wr w5 := ((Below.refl _ wr).alloc (Nat.le_refl _) _).grown hg5 (by simp) (fun k hk => by cases hk; exact Nat.le_refl _)
              have hS5 := HS.out.grown (grown_of_below (row := none) b5) (by simp)
              have hb5 := HB.out.trans (b5.mono z4)
              obtain ⟨gx, hgx⟩ : ∃ gx, wr.heap.size = gx := ⟨_, rfl⟩
              rw [hgx] at hX5 lgw ⊢
              have lgx : w.heap.size ≤ gx := by omega
              clear hg5 b5 hgx hr7
              go_upto_region 20 with (first
                | (refine wpList_store_row rfl _ _ _ rfl w5.heap.size ordA rfl rfl 124 _ (heap_alloc_new w5 _) (by rw [ordA_size]; exact i77) (by rw [ordA_size]; simp) ordA_all ?_))
              obtain ⟨gd, hgd⟩ : ∃ gd, w5.heap.size = gd := ⟨_, rfl⟩
              rw [hgd]
              have hV6 : AV ((w5.alloc (.cells #[.int .i64 0, .int .i64 0, .int .i64 0, .int .i64 0, .int .i64 0, .int .i64 0, .int .i64 0, .int .i64 0, .int .i64 0, .int .i64 0, .int .i64 0, .int .i64 0, .int .i64 0, .int .i64 0, .int .i64 0, .int .i64 0, .int .i64 0, .int .i64 0, .int .i64 0, .int .i64 0, .int .i64 0, .int .i64 0, .int .i64 0, .int .i64 0, .int .i64 0, .int .i64 0, .int .i64 0, .int .i64 0, .int .i64 0, .int .i64 0, .int .i64 0, .int .i64 0] 124)).setRow gd ordA) gd 124 ordL := by
                have hA0 : (w5.alloc (.cells #[.int .i64 0, .int .i64 0, .int .i64 0, .int .i64 0, .int .i64 0, .int .i64 0, .int .i64 0, .int .i64 0, .int .i64 0, .int .i64 0, .int .i64 0, .int .i64 0, .int .i64 0, .int .i64 0, .int .i64 0, .int .i64 0, .int .i64 0, .int .i64 0, .int .i64 0, .int .i64 0, .int .i64 0, .int .i64 0, .int .i64 0, .int .i64 0, .int .i64 0, .int .i64 0, .int .i64 0, .int .i64 0, .int .i64 0, .int .i64 0, .int .i64 0, .int .i64 0] 124)).heap[gd]? = some (.cells #[.int .i64 0, .int .i64 0, .int .i64 0, .int .i64 0, .int .i64 0, .int .i64 0, .int .i64 0, .int .i64 0, .int .i64 0, .int .i64 0, .int .i64 0, .int .i64 0, .int .i64 0, .int .i64 0, .int .i64 0, .int .i64 0, .int .i64 0, .int .i64 0, .int .i64 0, .int .i64 0, .int .i64 0, .int .i64 0, .int .i64 0, .int .i64 0, .int .i64 0, .int .i64 0, .int .i64 0, .int .i64 0, .int .i64 0, .int .i64 0, .int .i64 0, .int .i64 0] 124 (0, 0)) := by rw [← hgd]; exact heap_alloc_new w5 _
                exact setRow_heap _ _ _ _ _ _ hA0
              have hg6 : w5.grownBy ((w5.alloc (.cells #[.int .i64 0, .int .i64 0, .int .i64 0, .int .i64 0, .int .i64 0, .int .i64 0, .int .i64 0, .int .i64 0, .int .i64 0, .int .i64 0, .int .i64 0, .int .i64 0, .int .i64 0, .int .i64 0, .int .i64 0, .int .i64 0, .int .i64 0, .int .i64 0, .int .i64 0, .int .i64 0, .int .i64 0, .int .i64 0, .int .i64 0, .int .i64 0, .int .i64 0, .int .i64 0, .int .i64 0, .int .i64 0, .int .i64 0, .int .i64 0, .int .i64 0, .int .i64 0] 124)).setRow gd ordA) none := by
                have h1 := World.grownBy_alloc w5 (.cells #[.int .i64 0, .int .i64 0, .int .i64 0, .int .i64 0, .int .i64 0, .int .i64 0, .int .i64 0, .int .i64 0, .int .i64 0, .int .i64 0, .int .i64 0, .int .i64 0, .int .i64 0, .int .i64 0, .int .i64 0, .int .i64 0, .int .i64 0, .int .i64 0, .int .i64 0, .int .i64 0, .int .i64 0, .int .i64 0, .int .i64 0, .int .i64 0, .int .i64 0, .int .i64 0, .int .i64 0, .int .i64 0, .int .i64 0, .int .i64 0, .int .i64 0, .int .i64 0] 124) none
                exact grown_new h1 (grownBy_setRow _ gd ordA) (by omega)
              generalize (World.setRow _ _ _) = W6 at *
              have lgx5 := hX5.lt
              have hX6 := hX5.grown hg6 (by simp)
              have hS6 := hS5.grown hg6 (by simp)
              have hb6 := hb5.grown hg6 hb5.size (fun k hk => by cases hk)
              have HX6 := Lib.hid hX6
              have HS6 := Lib.hid hS6
              have HB6 := Lib.hid hb6
              have HV6 := Lib.hid hV6
              have lgd : gx < gd := by omega
              have hggx : g < gx := lgw
              have lgd6 := hV6.lt
              clear hX5 hS5 hb5 hV6 hg6 hX6 hS6 hb6 hgd iR
              go_wp2
              go_loopw [103] (fun s103 wr => ∃ r : Nat, r ≤ 10 ∧ s103 = .int .i64 (r : Int) ∧ AR wr gx 122 (rounds L r) ∧ W6.grownBy wr (some gx)) (fun s103 _ => 10 - (intOf s103).toNat)
              case atStart => exact ⟨0, by omega, rfl, HX6.out, World.grownBy.refl W6 _⟩
              case round =>
                obtain ⟨r, hr, rfl, hX, hg⟩ := hrel
                by_cases hlt : r < 10
                · have hok := rounds_ok HOK.out r
                  obtain ⟨Y, hY⟩ : ∃ Y, rounds L r = Y := ⟨_, rfl⟩
                  have hnx : EL (rounds L (r + 1)) (qN Y 8) := ⟨by rw [qN_8, rounds, hY]⟩
                  rw [hY] at hX hok
                  have hr77 := (HV6.out.grown hg (by simp; omega)).rng
                  have h77 := Lib.hid i77L
                  have HX := Lib.hid hX
                  have HG := Lib.hid hg
                  have HOKY := Lib.hid hok
                  clear hX hg hok hY HX6
                  go_upto_region 23 with (refine wpList_load_mid rfl _ _ rfl _ _ rfl ordL _ hr77 Tryd.underlying124 rfl h77.out ?_)
                  clear hr77
                  try rw [show decide ((r : Int) < 10) = true from decide_eq_true (by omega)]
                  go_loopw [106] (fun s106 wr => ∃ k : Nat, k ≤ 8 ∧ s106 = .int .i64 (k : Int) ∧ AR wr gx 122 (qN Y k) ∧ W6.grownBy wr (some gx)) (fun s106 _ => 8 - (intOf s106).toNat)
                  case atStart => exact ⟨0, by omega, rfl, HX.out, HG.out⟩
                  case round =>
                    obtain ⟨k, hk, rfl, hX, hg⟩ := hrel
                    clear HX HG
                    by_cases hlt8 : k < 8
                    · obtain ⟨ia, ib, ic, id, h4i, hqn, hox⟩ := ord_at Y k hlt8
                      have hok := qN_ok HOKY.out k hk
                      obtain ⟨T, hT⟩ : ∃ T, qN Y k = T := ⟨_, rfl⟩
                      rw [hT] at hX hqn hok
                      have i1 := h4i.hi
                      have i2 := h4i.hj
                      have i3 := h4i.hk
                      have i4 := h4i.hl
                      have n1 := h4i.ij
                      have n2 := h4i.ik
                      have n3 := h4i.il
                      have n4 := h4i.jk
                      have n5 := h4i.jl
                      have n6 := h4i.kl
                      obtain ⟨va, ea, la⟩ := hok.get ia i1
                      obtain ⟨vb, eb, lb⟩ := hok.get ib i2
                      obtain ⟨vc, ec, lc⟩ := hok.get ic i3
                      obtain ⟨vd, ed, ld⟩ := hok.get id i4
                      have hq2 := quart_eq (T := T) ea eb ec ed
                      rw [hq2] at hqn
                      have hqn := EL.mk hqn
                      have HX := Lib.hid hX
                      have HG := Lib.hid hg
                      have Hea := Lib.hid ea
                      have Heb := Lib.hid eb
                      have Hec := Lib.hid ec
                      have Hed := Lib.hid ed
                      clear hX hg hok hT hq2 ea eb ec ed h4i
                      go_upto_region 25 with (fail)
                      clear hox
                      have hX7 := HX.out.al (.cells #[.int .i64 (ia : Int), .int .i64 (ib : Int), .int .i64 (ic : Int), .int .i64 (id : Int)] 123)
                      have hG7 := grown_allocNew HG.out (.cells #[.int .i64 (ia : Int), .int .i64 (ib : Int), .int .i64 (ic : Int), .int .i64 (id : Int)] 123)
                      have hV7 : AV (wr.alloc (.cells #[.int .i64 (ia : Int), .int .i64 (ib : Int), .int .i64 (ic : Int), .int .i64 (id : Int)] 123)) wr.heap.size 123 [.int .i64 (ia : Int), .int .i64 (ib : Int), .int .i64 (ic : Int), .int .i64 (id : Int)] := heap_alloc_new wr _
                      have lgq := HX.out.lt
                      obtain ⟨gq, hgq⟩ : ∃ gq, wr.heap.size = gq := ⟨_, rfl⟩
                      rw [hgq] at hV7 lgq ⊢
                      clear hgq
                      generalize (World.alloc _ _) = W7 at *
                      have qa := hX7.cell ia va Hea.out
                      have qb := hX7.cell ib vb Heb.out
                      have qc := hX7.cell ic vc Hec.out
                      have qd := hX7.cell id vd Hed.out
                      have p0 := hV7.cell 0 _ rfl
                      have p1 := hV7.cell 1 _ rfl
                      have p2 := hV7.cell 2 _ rfl
                      have p3 := hV7.cell 3 _ rfl
                      have HX7 := Lib.hid hX7
                      have HG7 := Lib.hid hG7
                      have HV7 := Lib.hid hV7
                      clear hX7 hG7 hV7 HX HG
                      go_quiet (fail)
                      clear qa qb qc qd p0 p1 p2 p3
                      have hX8 : AR (W7.drewN nq) gx 122 T := HX7.out
                      have hV8 : AV (W7.drewN nq) gq 123 [.int .i64 (ia : Int), .int .i64 (ib : Int), .int .i64 (ic : Int), .int .i64 (id : Int)] := HV7.out
                      have hG8 : W6.grownBy (W7.drewN nq) (some gx) := grown_drewN HG7.out nq
                      generalize W7.drewN nq = W8 at *
                      have HX8 := Lib.hid hX8
                      have HG8 := Lib.hid hG8
                      have HV8 := Lib.hid hV8
                      clear hX8 hV8 hG8 HX7 HG7 HV7
                      obtain ⟨a1, x1, d1, c1, y1, b1, a2, x2, d2, c2, y2, b2, ⟨hqr⟩⟩ := QRs_ex va vb vc vd la lb lc ld
                      obtain ⟨⟨ha1, la1⟩, ⟨hx1, lx1⟩, ⟨hd1, ld1⟩, ⟨hc1, lc1⟩, ⟨hy1, ly1⟩, ⟨hb1, lb1⟩, ⟨ha2, la2⟩, ⟨hx2, lx2⟩, ⟨hd2, ld2⟩, ⟨hc2, lc2⟩, ⟨hy2, ly2⟩, ⟨hb2, lb2⟩, hqe⟩ := hqr
                      rw [hqe] at hqn
                      clear hqe
                      go_upto_region 34 with (fail)
                      rw [ha2, hc2]
                      clear ha1 hx1 hd1 hc1 hy1 hb1 ha2 hx2 hd2 hc2 hy2 hb2 la1 lx1 ld1 lc1 ly1 lb1 lx2 ly2
                      have p0 := HV8.out.cell 0 _ rfl
                      have p1 := HV8.out.cell 1 _ rfl
                      have p2 := HV8.out.cell 2 _ rfl
                      have p3 := HV8.out.cell 3 _ rfl
                      have qa := HX8.out.cell ia va Hea.out
                      have qb := HX8.out.cell ib vb Heb.out
                      have qc := HX8.out.cell ic vc Hec.out
                      have qd := HX8.out.cell id vd Hed.out
                      have fa := HX8.out.fr ia
                      have fb := HX8.out.fr ib
                      have fc := HX8.out.fr ic
                      have fd := HX8.out.fr id
                      have h4 := (((HX8.out.set_ ia a2).set_ ib b2).set_ ic c2).set_ id d2
                      have g4 := grown_set (grown_set (grown_set (grown_set HG8.out ia (.int .u32 (a2 : Int))) ib (.int .u32 (b2 : Int))) ic (.int .u32 (c2 : Int))) id (.int .u32 (d2 : Int))
                      have H4 := Lib.hid h4.drew
                      have G4 := Lib.hid (grown_drew g4)
                      clear h4 g4
                      go_region
                      clear p0 p1 p2 p3 qa qb qc qd fa fb fc fd
                      generalize World.drew _ = W9 at *
                      go_wp2
                      go_roundw
                      case rel => exact ⟨k + 1, by omega, by go_num, by rw [hqn.h]; exact H4.out, G4.out⟩
                      case measure => simp [intOf]; omega
                    · have hk8 : k = 8 := by omega
                      obtain ⟨Z, hZ⟩ : ∃ Z, qN Y 8 = Z := ⟨_, rfl⟩
                      have HNZ := EL.mk (hnx.h.trans hZ)
                      rw [hk8, hZ] at hX
                      have HX9 := Lib.hid hX
                      have HG9 := Lib.hid hg
                      clear hX hg hk8 hZ
                      go_wp2
                      go_roundw
                      case rel => exact ⟨r + 1, by omega, by go_num, by rw [HNZ.h]; exact HX9.out, HG9.out⟩
                      case measure => simp [intOf]; omega
                · have hr10 : r = 10 := by omega
                  rw [hr10] at hX
                  have hok := rounds_ok HOK.out 10
                  have hres := Hres.h
                  obtain ⟨X, hXe⟩ : ∃ X, rounds L 10 = X := ⟨_, rfl⟩
                  rw [hXe] at hX hok hres
                  have hout := fun i (h : i < 16) => outC_take X L i 16 (Nat.le_refl _) h
                  rw [hres] at hout
                  have hdl := hD.len
                  have hb10 := HB6.out.grown hg HB6.out.size (fun k hk => by cases hk; exact lgx)
                  have hS10 := HS6.out.grown hg (by simp; omega)
                  have HX10 := Lib.hid hX
                  have HS10 := Lib.hid hS10
                  have HB10 := Lib.hid hb10
                  have HOX := Lib.hid hok
                  have Hout := OQ.mk hout
                  have lx10 := hX.lt
                  have ls10 := hS10.lt
                  have z10 := hb10.size
                  clear hX hok hres hXe hout hb10 hS10 hg HX6 HS6 HB6 HV6 hr10 Hres hD
                  generalize wr = W10 at *
                  go_wp2
                  go_loopw [22, 191] (fun s22 s191 wr => ∃ (i : Nat) (a : Option Addr) (c : Nat), i ≤ 16 ∧ s191 = .int .i64 (i : Int) ∧ s22 = .slice a (4 * i) c ∧ OW wr W10.heap.size 5 1 a (4 * i) c ((d.take (4 * i)).map B) ∧ Below W10.heap.size W10 wr) (fun _ s191 _ => 16 - (intOf s191).toNat)
                  case atStart => exact ⟨0, none, 0, by omega, rfl, rfl, OW_nil _ _ _ _, Below.refl _ _⟩
                  case round =>
                    obtain ⟨i, a6, c6, hi, rfl, rfl, ho, hb⟩ := hrel
                    by_cases hlt : i < 16
                    · obtain ⟨xv, ex, lx⟩ := HOX.out.get i hlt
                      obtain ⟨sv, es, ls⟩ := HOK.out.get i hlt
                      have q1 : wr.cell? ⟨gx, i, none⟩ = some (.int .u32 (xv : Int)) := (hb.cell (p := ⟨gx, i, none⟩) lx10).trans (HX10.out.cell i xv ex)
                      have q2 : wr.cell? ⟨g, i, none⟩ = some (.int .u32 (sv : Int)) := (hb.cell (p := ⟨g, i, none⟩) ls10).trans (HS10.out.cell i sv es)
                      obtain ⟨v, hv⟩ : ∃ v, (xv + sv) % 4294967296 = v := ⟨_, rfl⟩
                      have hvi : ((xv : Int) + (sv : Int)) % 4294967296 = (v : Int) := by omega
                      have hvl : v < 4294967296 := by omega
                      have hnx := Hout.h i hlt
                      rw [List.getD_eq_getElem?_getD, List.getD_eq_getElem?_getD, ex, es] at hnx
                      simp only [Option.getD_some, hv] at hnx
                      have Hnx := EB.mk hnx
                      have HO := Lib.hid ho
                      have HB := Lib.hid hb
                      have hlen := ho.rs.le
                      have hsz := hb.size
                      clear ex es hv hnx ho hb
                      go_upto_region 41 with (fail)
                      go_quiet (fail)
                      rw [hvi]
                      clear q1 q2 hvi
                      have HO2 := Lib.hid (show OW (wr.drewN nq) W10.heap.size 5 1 a6 (4 * i) c6 ((d.take (4 * i)).map B) from HO.out)
                      have HB2 := Lib.hid (below_drewN HB.out nq)
                      have hsz2 : W10.heap.size ≤ (wr.drewN nq).heap.size := hsz
                      generalize wr.drewN nq = W11 at *
                      have hBs : (leB v).map B = [.int .u8 ((v : Int) % 256), .int .u8 ((v : Int) / 256 % 256), .int .u8 ((v : Int) / 65536 % 256), .int .u8 ((v : Int) / 16777216)] := by
                        simp only [leB, List.map_cons, List.map_nil, B, UInt8.toNat_ofNat']
                        rw [show ((v % 2 ^ 8 : Nat) : Int) = (v : Int) % 256 by omega, show ((v / 256 % 2 ^ 8 : Nat) : Int) = (v : Int) / 256 % 256 by omega, show ((v / 65536 % 2 ^ 8 : Nat) : Int) = (v : Int) / 65536 % 256 by omega, show ((v / 16777216 % 2 ^ 8 : Nat) : Int) = (v : Int) / 16777216 by omega]
                      have HBs := Lib.hid hBs
                      clear hBs HO HB
                      go_wp2_with (at_builtin; refine L_append tB (OW.alloc HO2.out _) (RS_new _ _ _ 4 rfl (by omega) (by simp [Value.oneCell'])) _ _ rfl rfl rfl rfl (by omega) (by unfold maxLen; omega) (by simp; omega) ?_; intro a7 c7 w7 o7 g7)
                      have B7 := Lib.hid ((HB2.out.alloc hsz2 _).grown g7 (by simp; omega) (row_le (fun ad ha => (HO2.out.base_le ha).1) (Nat.le_refl _)))
                      have O7 := Lib.hid (show OW w7 W10.heap.size 5 1 a7 (4 * (i + 1)) c7 ((d.take (4 * (i + 1))).map B) by
                        rw [Hnx.h, List.map_append, HBs.out]
                        exact o7)
                      clear o7 g7
                      go_roundw
                      case rel => exact ⟨i + 1, a7, c7, by omega, by go_num, rfl, O7.out, B7.out⟩
                      case measure => simp [intOf]; omega
                    · have hi16 : i = 16 := by omega
                      rw [hi16, List.take_of_length_le (by omega)] at ho
                      have HO := Lib.hid (ho.mono z10)
                      have HB := Lib.hid (HB10.out.trans (hb.mono z10))
                      have hn64 : 4 * i = 64 := by omega
                      clear ho hb
                      rw [hn64]
                      clear hn64
                      go_wp2
                      go_ret
                      exact ⟨_, _, rfl, HO.out, HB.out⟩
end Go.Proofs.YtlncnjcbgfeaoaaDoor
