/- ring.Mac: HMAC of all parts. -/
import Derived.Test.YtkhcpnmbhbhcgaaDoorYah
import Derived.Deep.WholeRow
set_option maxRecDepth 100000
set_option linter.unusedVariables false
namespace Go.Proofs.YtkhcpnmbhbhcgaaDoor
open Go.RowKit Go.Shelf
theorem L_copy_B {P : Program} {w : World} {ops : Array Oper} {rest : List Oper} {o : Oper} {f : Act} {Q : Exit → Act → World → Prop} {t e : TypeId} {zero : Value} {bytes : Nat}
    (ty : STy P t e zero 1 bytes) (hgd : o.guard = none) (d s : Operand) (ho : o.op = .call { callee := .builtin .copy, args := #[d, s], argTypes := #[t, t] })
    {g N C n c : Nat} {a : Option Addr} {xs ys : List UInt8} (hd : f.eval d = .slice (some ⟨g, 0, none⟩) N C) (hs : f.eval s = .slice a n c)
    (hA : AB w g e xs) (hl : xs.length = N) (hB : BS w a n c ys) (hn : n ≤ N)
    (h : ∀ w', AB w' g e (ys ++ xs.drop n) → w.grownBy w' (some g) → wpList P ops Q rest (f.put o.dst (goInt n)) w') : wpList P ops Q (o :: rest) f w := by
  obtain ⟨i, hi, hz0, hz1, hz2⟩ := info_parts ty.info
  have hsz : (P.info? e).map (·.size) = some 1 := by rw [hi]; simp [hz1]
  have hyl := BS.len hB
  by_cases h0 : n = 0
  · subst h0
    obtain rfl : ys = [] := List.eq_nil_of_length_eq_zero hyl
    refine wpList_copy_nothing hgd d s t t ho e ty.und hsz _ _ _ _ _ _ hd hs (by simp) ?_
    exact h w (by simpa using hA) (World.grownBy.refl w _)
  · cases a with
    | none => have := (RS.nil_inv hB).1; omega
    | some ad =>
      unfold AB at hA
      refine wpList_copy_own hgd d s t t ho e ty.und hsz g 0 N C ad n c hd hs _ e hA (ys.map B) (by rw [List.length_map, hyl]; exact (Nat.min_eq_left hn).symm) (RS.cells hB rfl) (by simp; omega) (one_B _) ?_
      rw [List.length_map, hyl]
      refine h _ ?_ (grownBy_setRow w g _)
      unfold AB
      rw [setRow_heap w g _ _ e _ hA]
      simp
theorem PS_one {w : World} {a : Option Addr} {n c : Nat} {p : List UInt8} {g : Nat} (hg : g = w.heap.size) (h : BS w a n c p) : PS (w.alloc (.cells #[.slice a n c] 22)) (some ⟨g, 0, none⟩) 1 1 [p] := by
  subst hg
  refine ⟨[.slice a n c], RS_one w _ _ rfl, rfl, fun i q hi => ?_⟩
  cases i with
  | zero => cases hi; exact ⟨a, n, c, rfl, RS.alloc h _⟩
  | succ i => simp at hi
theorem PS_two {w : World} {a b : Option Addr} {n c m k : Nat} {p q : List UInt8} {g : Nat} (hg : g = w.heap.size) (h : BS w a n c p) (h2 : BS w b m k q) : PS (w.alloc (.cells #[.slice a n c, .slice b m k] 22)) (some ⟨g, 0, none⟩) 2 2 [p, q] := by
  subst hg
  refine ⟨[.slice a n c, .slice b m k], RS_new w _ #[.slice a n c, .slice b m k] 2 rfl (by omega) (by simp [Value.oneCell']), rfl, fun i r hi => ?_⟩
  cases i with
  | zero => cases hi; exact ⟨a, n, c, rfl, RS.alloc h _⟩
  | succ i =>
    cases i with
    | zero => cases hi; exact ⟨b, m, k, rfl, RS.alloc h2 _⟩
    | succ i => simp at hi
theorem KT.alloc {w : World} (h : KT w) (o : Obj) : KT (w.alloc o) := h.below (below_alloc w o) (Nat.le_refl _)
theorem sum_one (w : World) {a : Option Addr} {n c : Nat} {p : List UInt8} {g : Nat} (hg : g = w.heap.size) (h : BS w a n c p) (hlen : n ≤ 1099511627776) (hK : KT w) :
    Calls Tryd.prog 70 #[.slice (some ⟨g, 0, none⟩) 1 1] (w.alloc (.cells #[.slice a n c] 22)) fun e w' => e = .returned (.agg ((shaS p).map B).toArray) ∧ Below w.heap.size w w' := by
  have hl := BS.len h
  refine (sum_any _ [p] (PS_one hg h) (by simp; omega) (hK.alloc _)).mono ?_
  rintro e w' ⟨rfl, hB⟩
  exact ⟨by simp, (below_alloc w _).trans (hB.mono (by simp))⟩
theorem sum_two (w : World) {a b : Option Addr} {n c m k : Nat} {p q : List UInt8} {g : Nat} (hg : g = w.heap.size) (h : BS w a n c p) (h2 : BS w b m k q) (hlen : n + m ≤ 1099511627776) (hK : KT w) :
    Calls Tryd.prog 70 #[.slice (some ⟨g, 0, none⟩) 2 2] (w.alloc (.cells #[.slice a n c, .slice b m k] 22)) fun e w' => e = .returned (.agg ((shaS (p ++ q)).map B).toArray) ∧ Below w.heap.size w w' := by
  have hl := BS.len h
  have hl2 := BS.len h2
  refine (sum_any _ [p, q] (PS_two hg h h2) (by simp; omega) (hK.alloc _)).mono ?_
  rintro e w' ⟨rfl, hB⟩
  exact ⟨by simp, (below_alloc w _).trans (hB.mono (by simp))⟩
theorem shaS_len (p : List UInt8) : (shaS p).length = 32 := by
  unfold shaS
  rw [wordsB_len, ← foldB_range, (foldB_ok _ _).1]
/-- x stored into a new array of 32 bytes -/
theorem L_store32 {w : World} {ops : Array Oper} {rest : List Oper} {o : Oper} {f : Act} {Q : Exit → Act → World → Prop} (hgd : o.guard = none) (x y : Operand) (ho : o.op = .store 26 x y)
    {g : Nat} {old d : List UInt8} (hx : f.eval x = .pointer (some ⟨g, 0, none⟩)) (hy : f.eval y = .agg (d.map B).toArray) (hA : AB w g 26 old) (hl : old.length = 32) (hl2 : d.length = 32)
    (h : ∀ w', AB w' g 26 d → w.grownBy w' (some g) → wpList Tryd.prog ops Q rest (f.put o.dst undef) w') : wpList Tryd.prog ops Q (o :: rest) f w := by
  refine wpList_store_row hgd 26 x y ho g _ hx hy 26 _ hA (by rw [List.size_toArray, List.length_map, hl2]; kernel_rfl) (by simp [hl, hl2]) (by rw [Array.all_eq_true_iff_forall_mem]; intro v hv; exact one_B _ v (by simpa using hv)) ?_
  exact h _ (setRow_heap _ _ _ _ _ _ hA) (grownBy_setRow w g _)
theorem AB_zeros (w : World) {g : Nat} (hg : g = w.heap.size) : AB (w.alloc (.cells #[.int .u8 0, .int .u8 0, .int .u8 0, .int .u8 0, .int .u8 0, .int .u8 0, .int .u8 0, .int .u8 0, .int .u8 0, .int .u8 0, .int .u8 0, .int .u8 0, .int .u8 0, .int .u8 0, .int .u8 0, .int .u8 0, .int .u8 0, .int .u8 0, .int .u8 0, .int .u8 0, .int .u8 0, .int .u8 0, .int .u8 0, .int .u8 0, .int .u8 0, .int .u8 0, .int .u8 0, .int .u8 0, .int .u8 0, .int .u8 0, .int .u8 0, .int .u8 0] 26)) g 26 (List.replicate 32 0) := by
  subst hg; exact heap_alloc_new w _
/-- 64 zeros, as a block's cells -/
def Z64 : Array Value := ((List.replicate 64 (0 : UInt8)).map B).toArray
theorem run_make64 (W : World) : (Instr.makeSlice 22 (.int .i64 64) (.int .i64 64)).run Tryd.prog W = .ok (.slice (some ⟨W.heap.size, 0, none⟩) 64 64) (W.alloc (.cells Z64 5)) := by
  obtain ⟨i, hi, hz0, hz1, hz2⟩ := info_parts tB.info
  have h := run_makeSlice (P := Tryd.prog) (w := W) 22 5 i _ tB.und hi hz0 .i64 .i64 64 64 (by omega) (by omega) (by rw [hz1]; decide) (by rw [hz2]; decide) (by omega)
  rw [hz1] at h
  rw [h]
  have e : madeCells (Value.int .u8 0).cells 64 = Z64 := by
    apply Array.ext'
    rw [show (Value.int .u8 0).cells = #[Value.int .u8 0] from rfl, toList_madeCells_one]
    rfl
  exact congrArg (fun c => Result.ok (Value.slice (some ⟨W.heap.size, 0, none⟩) 64 64) (W.alloc (.cells c 5))) e
/-- the first j bytes turned by v -/
def xorF (l : List UInt8) (v : UInt8) (j : Nat) : List UInt8 := (l.map (· ^^^ v)).take j ++ l.drop j
theorem xorF_zero (l : List UInt8) (v : UInt8) : xorF l v 0 = l := by simp [xorF]
theorem xorF_get (l : List UInt8) (v : UInt8) (j : Nat) (h : j ≤ l.length) : (xorF l v j)[j]? = l[j]? := by
  unfold xorF
  have hl : ((l.map (· ^^^ v)).take j).length = j := by rw [List.length_take, List.length_map]; omega
  rw [List.getElem?_append_right (by omega), hl, Nat.sub_self, List.getElem?_drop]; rfl
theorem xorF_set (l : List UInt8) (v : UInt8) (j : Nat) (x : UInt8) (h : l[j]? = some x) : (xorF l v j).set j (x ^^^ v) = xorF l v (j + 1) := by
  unfold xorF
  have hj : j < l.length := (List.getElem?_eq_some_iff.1 h).1
  have hl : ((l.map (· ^^^ v)).take j).length = j := by rw [List.length_take, List.length_map]; omega
  have hd : l.drop j = x :: l.drop (j + 1) := by
    obtain ⟨h1, h2⟩ := List.getElem?_eq_some_iff.1 h
    rw [List.drop_eq_getElem_cons h1, h2]
  rw [List.set_append_right _ _ (by omega), hl, Nat.sub_self, hd, List.set_cons_zero, List.take_add_one, List.getElem?_map, h]
  simp
theorem xorF_all (l : List UInt8) (v : UInt8) (j : Nat) (h : l.length ≤ j) : xorF l v j = l.map (· ^^^ v) := by
  unfold xorF; rw [List.take_of_length_le (by rw [List.length_map]; omega), List.drop_eq_nil_of_le h, List.append_nil]
theorem xor_u8 (x v : UInt8) (n : Int) (h : n = (v.toNat : Int)) : Value.int .u8 (bits .xor .u8 (x.toNat : Int) n) = B (x ^^^ v) := by
  subst h
  have h1 := x.toNat_lt
  have h2 := v.toNat_lt
  rw [u8_xor_nat _ _ h1 h2]
  simp [B]
/-- what Mac has under way: the inner key, the outer key, the array for what it hands back -/
structure MR (w wr : World) (g6 g7 : Nat) (x6 x7 : List UInt8) : Prop where
  i6 : AB wr g6 5 x6
  i7 : AB wr g7 5 x7
  out : AB wr w.heap.size 26 (List.replicate 32 0)
  bel : Below w.heap.size w wr
theorem MR.grown {w wr w' : World} {g6 g7 : Nat} {x6 x7 : List UInt8} (h : MR w wr g6 g7 x6 x7) (hb : Below wr.heap.size wr w') : MR w w' g6 g7 x6 x7 :=
  ⟨(hb.block _ h.i6.lt).trans h.i6, (hb.block _ h.i7.lt).trans h.i7, (hb.block _ h.out.lt).trans h.out, h.bel.trans (hb.mono h.bel.size)⟩
theorem MR.set6 {w wr w' : World} {g6 g7 : Nat} {x6 x7 y : List UInt8} (h : MR w wr g6 g7 x6 x7) (ha : AB w' g6 5 y) (hg : wr.grownBy w' (some g6)) (hne : g6 ≠ g7) (h6 : w.heap.size < g6) : MR w w' g6 g7 y x7 :=
  ⟨ha, h.i7.grown hg (by simp; omega), h.out.grown hg (by simp; omega), h.bel.grown hg h.bel.size (fun k hk => by cases hk; omega)⟩
theorem MR.set7 {w wr w' : World} {g6 g7 : Nat} {x6 x7 y : List UInt8} (h : MR w wr g6 g7 x6 x7) (ha : AB w' g7 5 y) (hg : wr.grownBy w' (some g7)) (hne : g6 ≠ g7) (h6 : w.heap.size < g7) : MR w w' g6 g7 x6 y :=
  ⟨h.i6.grown hg (by simp; omega), ha, h.out.grown hg (by simp; omega), h.bel.grown hg h.bel.size (fun k hk => by cases hk; omega)⟩
/-- the world behind both makes, whichever went first -/
theorem MR_made {w w2 : World} (hbel : Below w.heap.size w w2) (hout : AB w2 w.heap.size 26 (List.replicate 32 0)) :
    MR w (((w2.alloc (.cells Z64 5)).alloc (.cells Z64 5)).drew) w2.heap.size (w2.heap.size + 1) (List.replicate 64 0) (List.replicate 64 0) := by
  have h1 : AB (w2.alloc (.cells Z64 5)) w2.heap.size 5 (List.replicate 64 0) := heap_alloc_new w2 _
  have h3 := (hout.grown (World.grownBy_alloc w2 (.cells Z64 5) none) (by simp)).grown (World.grownBy_alloc _ (.cells Z64 5) none) (by simp)
  have h4 := h1.grown (World.grownBy_alloc _ (.cells Z64 5) none) (by simp)
  have h2 := heap_alloc_new (w2.alloc (.cells Z64 5)) (.cells Z64 5)
  rw [World.size_alloc] at h2
  exact ⟨h4, h2, h3, ((hbel.alloc hbel.size _).alloc (by have := hbel.size; simp; omega) _).drew⟩
theorem MR.swap {w wr : World} {g6 g7 : Nat} {x6 x7 : List UInt8} (h : MR w wr g6 g7 x6 x7) : MR w wr g7 g6 x7 x6 := ⟨h.i7, h.i6, h.out, h.bel⟩
theorem BS.other {w w' : World} {a : Option Addr} {n c g : Nat} {xs : List UInt8} (h : BS w a n c xs) (hg : w.grownBy w' (some g)) (hne : ∀ ad, a = some ad → 0 < n → ad.block ≠ g) : BS w' a n c xs := by
  by_cases h0 : n = 0
  · have hl := BS.len h
    obtain rfl : xs = [] := List.eq_nil_of_length_eq_zero (by omega)
    obtain ⟨h1, h2, h3, h4, h5, h6⟩ := h
    exact ⟨h1, h2, h3, h4, h5, fun ad ha => ⟨(h6 ad ha).1, fun j v hv => by simp at hv⟩⟩
  · exact RS.grown h hg fun ad ha => by have := hne ad ha (by omega); simpa using this
theorem PS_cons {w8 : World} {base m : Nat} {a8 : Option Addr} {c8 : Nat} {vs : List Value} {g : Nat} {x : List UInt8} {ps : List (List UInt8)} (o : OW w8 base 22 1 a8 (1 + m) c8 ([.slice (some ⟨g, 0, none⟩) 64 64] ++ vs)) (hx : BS w8 (some ⟨g, 0, none⟩) 64 64 x) (hps : ps.length = m)
    (hp : ∀ (i : Nat) p, ps[i]? = some p → ∃ a' m' c', vs[i]? = some (.slice a' m' c') ∧ BS w8 a' m' c' p) : PS w8 a8 (1 + m) c8 (x :: ps) := by
  refine ⟨_, o.rs, by simp [hps]; omega, fun i p hi => ?_⟩
  cases i with
  | zero => cases hi; exact ⟨_, _, _, rfl, hx⟩
  | succ i => exact hp i p (by simpa using hi)
theorem keyS_eq (key kk : List UInt8) (h : kk = if 64 < key.length then shaS key else key) : kk ++ (List.replicate 64 0).drop kk.length = keyS key := by
  unfold keyS; rw [List.drop_replicate, h]
theorem keyS_len (key : List UInt8) : (keyS key).length = 64 := by
  unfold keyS
  rw [List.length_append, List.length_replicate]
  have : (if 64 < key.length then shaS key else key).length ≤ 64 := by
    split
    · rw [shaS_len]; omega
    · omega
  omega
set_option maxHeartbeats 4000000 in
theorem mac_any (w : World) {a b : Option Addr} {n c m k : Nat} {key : List UInt8} (ps : List (List UInt8)) (hk : BS w a n c key) (h : PS w b m k ps) (hlen : ps.flatten.length ≤ 1099511627776 - 200) (hn : n ≤ 1099511627776) (hm : m ≤ 1099511627776) (hK : KT w) :
    Calls Tryd.prog 67 #[.slice a n c, .slice b m k] w fun e w' => e = .returned (.agg ((macS key ps.flatten).map B).toArray) ∧ Below w.heap.size w w' := by
  have HPS := Lib.hid h
  have HK := Lib.hid hK
  have Hk := Lib.hid hk
  have HL := Lib.hid hlen
  have hkl := Lib.hid (BS.len hk)
  clear h hK hk hlen
  go_enter Tryd.func67, Tryd.ntmps67
  rcases Nat.lt_or_ge 64 n with hn64 | hn64
  · go_upto_region 4 with (first
      | (go_at_call 70; refine (sum_one _ (by simp) (RS.alloc Hk.out _) hn (HK.out.alloc _)).mono ?_; rintro e w1 ⟨rfl, hB1⟩)
      | (refine L_store32 rfl _ _ rfl rfl rfl (AB_zeros _ (by simp)) (by simp) (shaS_len _) ?_; intro w2 hA2 hg2))
    have hbs := hA2.bs (by rw [shaS_len]; unfold maxLen; omega)
    rw [shaS_len] at hbs
    have hn5 : 32 ≤ 64 := by omega
    have b1 := (below_alloc w _).trans (hB1.mono (by simp))
    have hz1 := b1.size
    have hbel := (b1.alloc hz1 _).grown hg2 (by simp; omega) (by intro k hk; cases hk; omega)
    have hsz1 := hB1.size
    have hout : AB w2 w.heap.size 26 (List.replicate 32 0) := (AB.grown ((hB1.block _ (by simp)).trans (heap_alloc_new w _) : AB w1 w.heap.size 26 (List.replicate 32 0)) (World.grownBy_alloc w1 _ none) (by simp)).grown hg2 (by simp at hsz1 ⊢; omega)
    obtain ⟨kk, hkk⟩ : ∃ kk, shaS key = kk := ⟨_, rfl⟩
    have HKK := Lib.hid (show kk = (if 64 < key.length then shaS key else key) by rw [if_pos (by rw [hkl.out]; exact hn64)]; exact hkk.symm)
    rw [hkk] at hbs ⊢
    clear hA2 hg2 hB1 b1 hz1 hsz1 hkk
    have hmk := run_make64
    go_region
    · generalize hW3 : World.drew _ = W3
      have hz2 := hbel.size
      have hz3 := hout.lt
      have hM0 := MR_made hbel hout
      have hbs3 := RS.drew (RS.alloc (RS.alloc hbs (.cells Z64 5)) (.cells Z64 5))
      have hM := hM0
      rw [hW3] at hM hbs3
      have hbl : ∀ ad, (some ⟨w1.heap.size, 0, none⟩ : Option Addr) = some ad → 0 < 32 → ad.block < w2.heap.size := fun ad had h0 => RS.block_lt hbs had h0 (by omega)
      clear hM0 hW3 hbel hout hmk hbs
      generalize hg7e : w2.heap.size + 1 = g7 at *
      generalize hg6e : w2.heap.size = g6 at *
      have hne : g6 ≠ g7 := by omega
      have l6 : w.heap.size < g6 := by omega
      have l7 : w.heap.size < g7 := by omega
      have hkkl := BS.len hbs3
      go_upto_region 7 with (first
        | (refine L_copy_B tB rfl _ _ rfl rfl rfl hM4.i7 (by simp) hbs4 hn5 ?_; intro w5 hA5 hg5; have hM5 := hM4.set7 hA5 hg5 hne l7)
        | (refine L_copy_B tB rfl _ _ rfl rfl rfl hM.i6 (by simp) hbs3 hn5 ?_; intro w4 hA4 hg4; have hM4 := hM.set6 hA4 hg4 hne l6; have hbs4 := BS.other hbs3 hg4 (fun ad had h0 => by have := hbl ad had h0; omega)))
      have hkz := keyS_eq key kk HKK.out
      rw [hkkl] at hkz
      rw [hkz] at hM5
      have hkzl := keyS_len key
      obtain ⟨kz, hkze⟩ : ∃ kz, keyS key = kz := ⟨_, rfl⟩
      have HKZ := Lib.hid hkze
      rw [hkze] at hM5 hkzl
      have Hkzl := Lib.hid hkzl
      clear hkz hkze hkzl hM4 hbs4 hA4 hg4 hA5 hg5 hM hbs3 hbl hkkl HKK
      have hne2 : g7 ≠ g6 := fun h => hne h.symm
      go_wp2
      go_loopw [25] (fun s25 wr => ∃ j : Nat, j ≤ 64 ∧ s25 = .int .i64 (j : Int) ∧ MR w wr g6 g7 (xorF kz 54 j) (xorF kz 92 j)) (fun s25 _ => 64 - (intOf s25).toNat)
      case atStart => exact ⟨0, by omega, rfl, by rw [xorF_zero, xorF_zero]; exact hM5⟩
      case round =>
        obtain ⟨j, hj, rfl, hM⟩ := hrel
        by_cases hlt : j < 64
        · obtain ⟨y, hy⟩ : ∃ y, kz[j]? = some y := ⟨_, List.getElem?_eq_getElem (by rw [Hkzl.out]; omega)⟩
          have q6 : wr.cell? ⟨g6, j, none⟩ = some (.int .u8 (y.toNat : Int)) := hM.i6.cell j y (by rw [xorF_get _ _ _ (by rw [Hkzl.out]; omega)]; exact hy)
          have q7 : wr.cell? ⟨g7, j, none⟩ = some (.int .u8 (y.toNat : Int)) := hM.i7.cell j y (by rw [xorF_get _ _ _ (by rw [Hkzl.out]; omega)]; exact hy)
          have f6 := hM.i6.fr j
          have f7 := hM.i7.fr j
          have Hy := Lib.hid hy
          have HM := Lib.hid hM
          clear hy hM hM5
          go_wp2
          go_roundw
          case rel =>
            refine ⟨j + 1, by omega, by go_num, ?_⟩
            rw [xor_u8 y 54 54 rfl, xor_u8 y 92 92 rfl, ← xorF_set _ _ _ _ Hy.out, ← xorF_set _ _ _ _ Hy.out]
            have h1 := HM.out.set6 (HM.out.i6.set_ j (y ^^^ 54)) (grownBy_setCell wr ⟨g6, j, none⟩ _) hne l6
            exact h1.set7 (h1.i7.set_ j (y ^^^ 92)) (grownBy_setCell _ ⟨g7, j, none⟩ _) hne l7
          case measure => simp [intOf]; omega
        · obtain rfl : j = 64 := by omega
          rw [show ((64 : Nat) : Int) = 64 from rfl]
          rw [xorF_all _ _ _ (by rw [Hkzl.out]; omega), xorF_all _ _ _ (by rw [Hkzl.out]; omega)] at hM
          have hil : (kz.map (· ^^^ 54)).length = 64 := by rw [List.length_map, Hkzl.out]
          have hol : (kz.map (· ^^^ 92)).length = 64 := by rw [List.length_map, Hkzl.out]
          have hmac : macS key ps.flatten = shaS (kz.map (· ^^^ 92) ++ shaS (kz.map (· ^^^ 54) ++ ps.flatten)) := by rw [← HKZ.out]; rfl
          have Hmac := Lib.hid hmac
          clear hmac
          obtain ⟨x6, hx6⟩ : ∃ x6, kz.map (· ^^^ 54) = x6 := ⟨_, rfl⟩
          obtain ⟨x7, hx7⟩ : ∃ x7, kz.map (· ^^^ 92) = x7 := ⟨_, rfl⟩
          rw [hx6] at hM hil Hmac
          rw [hx7] at hM hol Hmac
          clear hx6 hx7 hM5
          obtain ⟨W6, rfl⟩ : ∃ W6, W6 = wr := ⟨wr, rfl⟩
          have hsz6 := hM.bel.size
          obtain ⟨vs, hv, hpn, hpp⟩ := HPS.out.below hM.bel (Nat.le_refl _)
          have Hpp := Lib.hid hpp
          have hK6 := HK.out.below hM.bel (Nat.le_refl _)
          have Hil := Lib.hid hil
          have Hol := Lib.hid hol
          clear hpp hil hol
          go_upto_region 14 with (first
            | (at_builtin; refine L_append tS (OW_made _ w.heap.size _ 1 #[_] 1 hsz6 rfl (by unfold maxLen; omega) (by simp [Value.oneCell'])) (hv.alloc _) _ _ rfl rfl rfl rfl (by omega) (by unfold maxLen; omega) (by simp; omega) ?_; intro a8 c8 w8 o8 g8; have hB8 : Below W6.heap.size W6 w8 := (below_alloc W6 _).grown g8 (by simp) (by intro k hk; cases hk; exact Nat.le_refl _); have hM8 := hM.grown hB8; have hx8 := hM8.i6.bs (by rw [Hil.out]; unfold maxLen; omega); rw [Hil.out] at hx8; have hPS8 := PS_cons o8 hx8 hpn (fun i p hi => by obtain ⟨a', m', c', h1, h2⟩ := Hpp.out i p hi; exact ⟨a', m', c', h1, RS.below h2 hB8 (Nat.le_refl _)⟩); have hK8 := hK6.below hB8 (Nat.le_refl _); have hfl8 : (x6 :: ps).flatten.length ≤ 1099511627776 := by rw [List.flatten_cons, List.length_append, Hil.out]; have := HL.out; omega)
            | (go_at_call 70; refine (sum_any _ (x6 :: ps) hPS8 hfl8 hK8).mono ?_; rintro e w9 ⟨rfl, hB9⟩)
            | (refine L_store32 rfl _ _ rfl rfl rfl (AB_zeros _ (by simp)) (by simp) (shaS_len _) ?_; intro w10 hA10 hg10))
          have hb9 := hB9.size
          have hM10 := (hM8.grown hB9).grown (((below_alloc w9 _).grown hg10 (by simp) (by intro k hk; cases hk; omega)))
          have hK10 := HK.out.below hM10.bel (Nat.le_refl _)
          have hx10 := hA10.bs (by rw [shaS_len]; unfold maxLen; omega)
          rw [shaS_len] at hx10
          have hx7 := hM10.i7.bs (by rw [Hol.out]; unfold maxLen; omega)
          rw [Hol.out] at hx7
          try rw [show (x6 :: ps).flatten = x6 ++ ps.flatten from by simp] at hx10
          have hsz10 := hM10.bel.size
          go_wp2_with (first
            | (go_at_call 70; refine (sum_two _ (by simp) hx7 hx10 (by omega) hK10).mono ?_; rintro e w11 ⟨rfl, hB11⟩; have hM11 := hM10.grown hB11)
            | (refine L_store32 rfl _ _ rfl rfl rfl hM11.out (by simp) (shaS_len _) ?_; intro w12 hA12 hg12))
          have hi32 : (Tryd.prog.info? 26).map (·.size) = some ((shaS (x7 ++ shaS (x6 ++ ps.flatten))).map B).toArray.size := by rw [List.size_toArray, List.length_map, shaS_len]; kernel_rfl
          refine bodyPost_ret_by (results_cell_row rfl _ _ _ _ _ _ _ rfl hA12 Tryd.underlying26 rfl hi32) rfl ⟨by rw [Hmac.out], ?_⟩
          exact hM11.bel.grown hg12 hM11.bel.size (fun k hk => by cases hk; exact Nat.le_refl _)
    · generalize hW3 : World.drew _ = W3
      have hz2 := hbel.size
      have hz3 := hout.lt
      have hM0 := MR_made hbel hout
      have hbs3 := RS.drew (RS.alloc (RS.alloc hbs (.cells Z64 5)) (.cells Z64 5))
      have hM := hM0.swap
      rw [hW3] at hM hbs3
      have hbl : ∀ ad, (some ⟨w1.heap.size, 0, none⟩ : Option Addr) = some ad → 0 < 32 → ad.block < w2.heap.size := fun ad had h0 => RS.block_lt hbs had h0 (by omega)
      clear hM0 hW3 hbel hout hmk hbs
      generalize hg7e : w2.heap.size + 1 = g6 at *
      generalize hg6e : w2.heap.size = g7 at *
      have hne : g6 ≠ g7 := by omega
      have l6 : w.heap.size < g6 := by omega
      have l7 : w.heap.size < g7 := by omega
      have hkkl := BS.len hbs3
      go_upto_region 7 with (first
        | (refine L_copy_B tB rfl _ _ rfl rfl rfl hM4.i7 (by simp) hbs4 hn5 ?_; intro w5 hA5 hg5; have hM5 := hM4.set7 hA5 hg5 hne l7)
        | (refine L_copy_B tB rfl _ _ rfl rfl rfl hM.i6 (by simp) hbs3 hn5 ?_; intro w4 hA4 hg4; have hM4 := hM.set6 hA4 hg4 hne l6; have hbs4 := BS.other hbs3 hg4 (fun ad had h0 => by have := hbl ad had h0; omega)))
      have hkz := keyS_eq key kk HKK.out
      rw [hkkl] at hkz
      rw [hkz] at hM5
      have hkzl := keyS_len key
      obtain ⟨kz, hkze⟩ : ∃ kz, keyS key = kz := ⟨_, rfl⟩
      have HKZ := Lib.hid hkze
      rw [hkze] at hM5 hkzl
      have Hkzl := Lib.hid hkzl
      clear hkz hkze hkzl hM4 hbs4 hA4 hg4 hA5 hg5 hM hbs3 hbl hkkl HKK
      have hne2 : g7 ≠ g6 := fun h => hne h.symm
      go_wp2
      go_loopw [25] (fun s25 wr => ∃ j : Nat, j ≤ 64 ∧ s25 = .int .i64 (j : Int) ∧ MR w wr g6 g7 (xorF kz 54 j) (xorF kz 92 j)) (fun s25 _ => 64 - (intOf s25).toNat)
      case atStart => exact ⟨0, by omega, rfl, by rw [xorF_zero, xorF_zero]; exact hM5⟩
      case round =>
        obtain ⟨j, hj, rfl, hM⟩ := hrel
        by_cases hlt : j < 64
        · obtain ⟨y, hy⟩ : ∃ y, kz[j]? = some y := ⟨_, List.getElem?_eq_getElem (by rw [Hkzl.out]; omega)⟩
          have q6 : wr.cell? ⟨g6, j, none⟩ = some (.int .u8 (y.toNat : Int)) := hM.i6.cell j y (by rw [xorF_get _ _ _ (by rw [Hkzl.out]; omega)]; exact hy)
          have q7 : wr.cell? ⟨g7, j, none⟩ = some (.int .u8 (y.toNat : Int)) := hM.i7.cell j y (by rw [xorF_get _ _ _ (by rw [Hkzl.out]; omega)]; exact hy)
          have f6 := hM.i6.fr j
          have f7 := hM.i7.fr j
          have Hy := Lib.hid hy
          have HM := Lib.hid hM
          clear hy hM hM5
          go_wp2
          go_roundw
          case rel =>
            refine ⟨j + 1, by omega, by go_num, ?_⟩
            rw [xor_u8 y 54 54 rfl, xor_u8 y 92 92 rfl, ← xorF_set _ _ _ _ Hy.out, ← xorF_set _ _ _ _ Hy.out]
            have h1 := HM.out.set6 (HM.out.i6.set_ j (y ^^^ 54)) (grownBy_setCell wr ⟨g6, j, none⟩ _) hne l6
            exact h1.set7 (h1.i7.set_ j (y ^^^ 92)) (grownBy_setCell _ ⟨g7, j, none⟩ _) hne l7
          case measure => simp [intOf]; omega
        · obtain rfl : j = 64 := by omega
          rw [show ((64 : Nat) : Int) = 64 from rfl]
          rw [xorF_all _ _ _ (by rw [Hkzl.out]; omega), xorF_all _ _ _ (by rw [Hkzl.out]; omega)] at hM
          have hil : (kz.map (· ^^^ 54)).length = 64 := by rw [List.length_map, Hkzl.out]
          have hol : (kz.map (· ^^^ 92)).length = 64 := by rw [List.length_map, Hkzl.out]
          have hmac : macS key ps.flatten = shaS (kz.map (· ^^^ 92) ++ shaS (kz.map (· ^^^ 54) ++ ps.flatten)) := by rw [← HKZ.out]; rfl
          have Hmac := Lib.hid hmac
          clear hmac
          obtain ⟨x6, hx6⟩ : ∃ x6, kz.map (· ^^^ 54) = x6 := ⟨_, rfl⟩
          obtain ⟨x7, hx7⟩ : ∃ x7, kz.map (· ^^^ 92) = x7 := ⟨_, rfl⟩
          rw [hx6] at hM hil Hmac
          rw [hx7] at hM hol Hmac
          clear hx6 hx7 hM5
          obtain ⟨W6, rfl⟩ : ∃ W6, W6 = wr := ⟨wr, rfl⟩
          have hsz6 := hM.bel.size
          obtain ⟨vs, hv, hpn, hpp⟩ := HPS.out.below hM.bel (Nat.le_refl _)
          have Hpp := Lib.hid hpp
          have hK6 := HK.out.below hM.bel (Nat.le_refl _)
          have Hil := Lib.hid hil
          have Hol := Lib.hid hol
          clear hpp hil hol
          go_upto_region 14 with (first
            | (at_builtin; refine L_append tS (OW_made _ w.heap.size _ 1 #[_] 1 hsz6 rfl (by unfold maxLen; omega) (by simp [Value.oneCell'])) (hv.alloc _) _ _ rfl rfl rfl rfl (by omega) (by unfold maxLen; omega) (by simp; omega) ?_; intro a8 c8 w8 o8 g8; have hB8 : Below W6.heap.size W6 w8 := (below_alloc W6 _).grown g8 (by simp) (by intro k hk; cases hk; exact Nat.le_refl _); have hM8 := hM.grown hB8; have hx8 := hM8.i6.bs (by rw [Hil.out]; unfold maxLen; omega); rw [Hil.out] at hx8; have hPS8 := PS_cons o8 hx8 hpn (fun i p hi => by obtain ⟨a', m', c', h1, h2⟩ := Hpp.out i p hi; exact ⟨a', m', c', h1, RS.below h2 hB8 (Nat.le_refl _)⟩); have hK8 := hK6.below hB8 (Nat.le_refl _); have hfl8 : (x6 :: ps).flatten.length ≤ 1099511627776 := by rw [List.flatten_cons, List.length_append, Hil.out]; have := HL.out; omega)
            | (go_at_call 70; refine (sum_any _ (x6 :: ps) hPS8 hfl8 hK8).mono ?_; rintro e w9 ⟨rfl, hB9⟩)
            | (refine L_store32 rfl _ _ rfl rfl rfl (AB_zeros _ (by simp)) (by simp) (shaS_len _) ?_; intro w10 hA10 hg10))
          have hb9 := hB9.size
          have hM10 := (hM8.grown hB9).grown (((below_alloc w9 _).grown hg10 (by simp) (by intro k hk; cases hk; omega)))
          have hK10 := HK.out.below hM10.bel (Nat.le_refl _)
          have hx10 := hA10.bs (by rw [shaS_len]; unfold maxLen; omega)
          rw [shaS_len] at hx10
          have hx7 := hM10.i7.bs (by rw [Hol.out]; unfold maxLen; omega)
          rw [Hol.out] at hx7
          try rw [show (x6 :: ps).flatten = x6 ++ ps.flatten from by simp] at hx10
          have hsz10 := hM10.bel.size
          go_wp2_with (first
            | (go_at_call 70; refine (sum_two _ (by simp) hx7 hx10 (by omega) hK10).mono ?_; rintro e w11 ⟨rfl, hB11⟩; have hM11 := hM10.grown hB11)
            | (refine L_store32 rfl _ _ rfl rfl rfl hM11.out (by simp) (shaS_len _) ?_; intro w12 hA12 hg12))
          have hi32 : (Tryd.prog.info? 26).map (·.size) = some ((shaS (x7 ++ shaS (x6 ++ ps.flatten))).map B).toArray.size := by rw [List.size_toArray, List.length_map, shaS_len]; kernel_rfl
          refine bodyPost_ret_by (results_cell_row rfl _ _ _ _ _ _ _ rfl hA12 Tryd.underlying26 rfl hi32) rfl ⟨by rw [Hmac.out], ?_⟩
          exact hM11.bel.grown hg12 hM11.bel.size (fun k hk => by cases hk; exact Nat.le_refl _)
  · go_upto_region 4 with (fail)
    have hbs := RS.alloc (w := w) Hk.out (.cells #[.int .u8 0, .int .u8 0, .int .u8 0, .int .u8 0, .int .u8 0, .int .u8 0, .int .u8 0, .int .u8 0, .int .u8 0, .int .u8 0, .int .u8 0, .int .u8 0, .int .u8 0, .int .u8 0, .int .u8 0, .int .u8 0, .int .u8 0, .int .u8 0, .int .u8 0, .int .u8 0, .int .u8 0, .int .u8 0, .int .u8 0, .int .u8 0, .int .u8 0, .int .u8 0, .int .u8 0, .int .u8 0, .int .u8 0, .int .u8 0, .int .u8 0, .int .u8 0] 26)
    have hn5 := hn64
    have hbel := below_alloc w (.cells #[.int .u8 0, .int .u8 0, .int .u8 0, .int .u8 0, .int .u8 0, .int .u8 0, .int .u8 0, .int .u8 0, .int .u8 0, .int .u8 0, .int .u8 0, .int .u8 0, .int .u8 0, .int .u8 0, .int .u8 0, .int .u8 0, .int .u8 0, .int .u8 0, .int .u8 0, .int .u8 0, .int .u8 0, .int .u8 0, .int .u8 0, .int .u8 0, .int .u8 0, .int .u8 0, .int .u8 0, .int .u8 0, .int .u8 0, .int .u8 0, .int .u8 0, .int .u8 0] 26)
    have hout := AB_zeros w (g := w.heap.size) rfl
    obtain ⟨kk, hkk⟩ : ∃ kk, key = kk := ⟨_, rfl⟩
    have HKK := Lib.hid (show kk = (if 64 < key.length then shaS key else key) by rw [if_neg (by rw [hkl.out]; omega)]; exact hkk.symm)
    rw [hkk] at hbs
    clear hkk
    generalize w.alloc _ = w2 at *
    have hmk := run_make64
    go_region
    · generalize hW3 : World.drew _ = W3
      have hz2 := hbel.size
      have hz3 := hout.lt
      have hM0 := MR_made hbel hout
      have hbs3 := RS.drew (RS.alloc (RS.alloc hbs (.cells Z64 5)) (.cells Z64 5))
      have hM := hM0
      rw [hW3] at hM hbs3
      have hbl : ∀ ad, a = some ad → 0 < n → ad.block < w2.heap.size := fun ad had h0 => RS.block_lt hbs had h0 (by omega)
      clear hM0 hW3 hbel hout hmk hbs
      generalize hg7e : w2.heap.size + 1 = g7 at *
      generalize hg6e : w2.heap.size = g6 at *
      have hne : g6 ≠ g7 := by omega
      have l6 : w.heap.size < g6 := by omega
      have l7 : w.heap.size < g7 := by omega
      have hkkl := BS.len hbs3
      go_upto_region 7 with (first
        | (refine L_copy_B tB rfl _ _ rfl rfl rfl hM4.i7 (by simp) hbs4 hn5 ?_; intro w5 hA5 hg5; have hM5 := hM4.set7 hA5 hg5 hne l7)
        | (refine L_copy_B tB rfl _ _ rfl rfl rfl hM.i6 (by simp) hbs3 hn5 ?_; intro w4 hA4 hg4; have hM4 := hM.set6 hA4 hg4 hne l6; have hbs4 := BS.other hbs3 hg4 (fun ad had h0 => by have := hbl ad had h0; omega)))
      have hkz := keyS_eq key kk HKK.out
      rw [hkkl] at hkz
      rw [hkz] at hM5
      have hkzl := keyS_len key
      obtain ⟨kz, hkze⟩ : ∃ kz, keyS key = kz := ⟨_, rfl⟩
      have HKZ := Lib.hid hkze
      rw [hkze] at hM5 hkzl
      have Hkzl := Lib.hid hkzl
      clear hkz hkze hkzl hM4 hbs4 hA4 hg4 hA5 hg5 hM hbs3 hbl hkkl HKK
      have hne2 : g7 ≠ g6 := fun h => hne h.symm
      go_wp2
      go_loopw [25] (fun s25 wr => ∃ j : Nat, j ≤ 64 ∧ s25 = .int .i64 (j : Int) ∧ MR w wr g6 g7 (xorF kz 54 j) (xorF kz 92 j)) (fun s25 _ => 64 - (intOf s25).toNat)
      case atStart => exact ⟨0, by omega, rfl, by rw [xorF_zero, xorF_zero]; exact hM5⟩
      case round =>
        obtain ⟨j, hj, rfl, hM⟩ := hrel
        by_cases hlt : j < 64
        · obtain ⟨y, hy⟩ : ∃ y, kz[j]? = some y := ⟨_, List.getElem?_eq_getElem (by rw [Hkzl.out]; omega)⟩
          have q6 : wr.cell? ⟨g6, j, none⟩ = some (.int .u8 (y.toNat : Int)) := hM.i6.cell j y (by rw [xorF_get _ _ _ (by rw [Hkzl.out]; omega)]; exact hy)
          have q7 : wr.cell? ⟨g7, j, none⟩ = some (.int .u8 (y.toNat : Int)) := hM.i7.cell j y (by rw [xorF_get _ _ _ (by rw [Hkzl.out]; omega)]; exact hy)
          have f6 := hM.i6.fr j
          have f7 := hM.i7.fr j
          have Hy := Lib.hid hy
          have HM := Lib.hid hM
          clear hy hM hM5
          go_wp2
          go_roundw
          case rel =>
            refine ⟨j + 1, by omega, by go_num, ?_⟩
            rw [xor_u8 y 54 54 rfl, xor_u8 y 92 92 rfl, ← xorF_set _ _ _ _ Hy.out, ← xorF_set _ _ _ _ Hy.out]
            have h1 := HM.out.set6 (HM.out.i6.set_ j (y ^^^ 54)) (grownBy_setCell wr ⟨g6, j, none⟩ _) hne l6
            exact h1.set7 (h1.i7.set_ j (y ^^^ 92)) (grownBy_setCell _ ⟨g7, j, none⟩ _) hne l7
          case measure => simp [intOf]; omega
        · obtain rfl : j = 64 := by omega
          rw [show ((64 : Nat) : Int) = 64 from rfl]
          rw [xorF_all _ _ _ (by rw [Hkzl.out]; omega), xorF_all _ _ _ (by rw [Hkzl.out]; omega)] at hM
          have hil : (kz.map (· ^^^ 54)).length = 64 := by rw [List.length_map, Hkzl.out]
          have hol : (kz.map (· ^^^ 92)).length = 64 := by rw [List.length_map, Hkzl.out]
          have hmac : macS key ps.flatten = shaS (kz.map (· ^^^ 92) ++ shaS (kz.map (· ^^^ 54) ++ ps.flatten)) := by rw [← HKZ.out]; rfl
          have Hmac := Lib.hid hmac
          clear hmac
          obtain ⟨x6, hx6⟩ : ∃ x6, kz.map (· ^^^ 54) = x6 := ⟨_, rfl⟩
          obtain ⟨x7, hx7⟩ : ∃ x7, kz.map (· ^^^ 92) = x7 := ⟨_, rfl⟩
          rw [hx6] at hM hil Hmac
          rw [hx7] at hM hol Hmac
          clear hx6 hx7 hM5
          obtain ⟨W6, rfl⟩ : ∃ W6, W6 = wr := ⟨wr, rfl⟩
          have hsz6 := hM.bel.size
          obtain ⟨vs, hv, hpn, hpp⟩ := HPS.out.below hM.bel (Nat.le_refl _)
          have Hpp := Lib.hid hpp
          have hK6 := HK.out.below hM.bel (Nat.le_refl _)
          have Hil := Lib.hid hil
          have Hol := Lib.hid hol
          clear hpp hil hol
          go_upto_region 14 with (first
            | (at_builtin; refine L_append tS (OW_made _ w.heap.size _ 1 #[_] 1 hsz6 rfl (by unfold maxLen; omega) (by simp [Value.oneCell'])) (hv.alloc _) _ _ rfl rfl rfl rfl (by omega) (by unfold maxLen; omega) (by simp; omega) ?_; intro a8 c8 w8 o8 g8; have hB8 : Below W6.heap.size W6 w8 := (below_alloc W6 _).grown g8 (by simp) (by intro k hk; cases hk; exact Nat.le_refl _); have hM8 := hM.grown hB8; have hx8 := hM8.i6.bs (by rw [Hil.out]; unfold maxLen; omega); rw [Hil.out] at hx8; have hPS8 := PS_cons o8 hx8 hpn (fun i p hi => by obtain ⟨a', m', c', h1, h2⟩ := Hpp.out i p hi; exact ⟨a', m', c', h1, RS.below h2 hB8 (Nat.le_refl _)⟩); have hK8 := hK6.below hB8 (Nat.le_refl _); have hfl8 : (x6 :: ps).flatten.length ≤ 1099511627776 := by rw [List.flatten_cons, List.length_append, Hil.out]; have := HL.out; omega)
            | (go_at_call 70; refine (sum_any _ (x6 :: ps) hPS8 hfl8 hK8).mono ?_; rintro e w9 ⟨rfl, hB9⟩)
            | (refine L_store32 rfl _ _ rfl rfl rfl (AB_zeros _ (by simp)) (by simp) (shaS_len _) ?_; intro w10 hA10 hg10))
          have hb9 := hB9.size
          have hM10 := (hM8.grown hB9).grown (((below_alloc w9 _).grown hg10 (by simp) (by intro k hk; cases hk; omega)))
          have hK10 := HK.out.below hM10.bel (Nat.le_refl _)
          have hx10 := hA10.bs (by rw [shaS_len]; unfold maxLen; omega)
          rw [shaS_len] at hx10
          have hx7 := hM10.i7.bs (by rw [Hol.out]; unfold maxLen; omega)
          rw [Hol.out] at hx7
          try rw [show (x6 :: ps).flatten = x6 ++ ps.flatten from by simp] at hx10
          have hsz10 := hM10.bel.size
          go_wp2_with (first
            | (go_at_call 70; refine (sum_two _ (by simp) hx7 hx10 (by omega) hK10).mono ?_; rintro e w11 ⟨rfl, hB11⟩; have hM11 := hM10.grown hB11)
            | (refine L_store32 rfl _ _ rfl rfl rfl hM11.out (by simp) (shaS_len _) ?_; intro w12 hA12 hg12))
          have hi32 : (Tryd.prog.info? 26).map (·.size) = some ((shaS (x7 ++ shaS (x6 ++ ps.flatten))).map B).toArray.size := by rw [List.size_toArray, List.length_map, shaS_len]; kernel_rfl
          refine bodyPost_ret_by (results_cell_row rfl _ _ _ _ _ _ _ rfl hA12 Tryd.underlying26 rfl hi32) rfl ⟨by rw [Hmac.out], ?_⟩
          exact hM11.bel.grown hg12 hM11.bel.size (fun k hk => by cases hk; exact Nat.le_refl _)
    · generalize hW3 : World.drew _ = W3
      have hz2 := hbel.size
      have hz3 := hout.lt
      have hM0 := MR_made hbel hout
      have hbs3 := RS.drew (RS.alloc (RS.alloc hbs (.cells Z64 5)) (.cells Z64 5))
      have hM := hM0.swap
      rw [hW3] at hM hbs3
      have hbl : ∀ ad, a = some ad → 0 < n → ad.block < w2.heap.size := fun ad had h0 => RS.block_lt hbs had h0 (by omega)
      clear hM0 hW3 hbel hout hmk hbs
      generalize hg7e : w2.heap.size + 1 = g6 at *
      generalize hg6e : w2.heap.size = g7 at *
      have hne : g6 ≠ g7 := by omega
      have l6 : w.heap.size < g6 := by omega
      have l7 : w.heap.size < g7 := by omega
      have hkkl := BS.len hbs3
      go_upto_region 7 with (first
        | (refine L_copy_B tB rfl _ _ rfl rfl rfl hM4.i7 (by simp) hbs4 hn5 ?_; intro w5 hA5 hg5; have hM5 := hM4.set7 hA5 hg5 hne l7)
        | (refine L_copy_B tB rfl _ _ rfl rfl rfl hM.i6 (by simp) hbs3 hn5 ?_; intro w4 hA4 hg4; have hM4 := hM.set6 hA4 hg4 hne l6; have hbs4 := BS.other hbs3 hg4 (fun ad had h0 => by have := hbl ad had h0; omega)))
      have hkz := keyS_eq key kk HKK.out
      rw [hkkl] at hkz
      rw [hkz] at hM5
      have hkzl := keyS_len key
      obtain ⟨kz, hkze⟩ : ∃ kz, keyS key = kz := ⟨_, rfl⟩
      have HKZ := Lib.hid hkze
      rw [hkze] at hM5 hkzl
      have Hkzl := Lib.hid hkzl
      clear hkz hkze hkzl hM4 hbs4 hA4 hg4 hA5 hg5 hM hbs3 hbl hkkl HKK
      have hne2 : g7 ≠ g6 := fun h => hne h.symm
      go_wp2
      go_loopw [25] (fun s25 wr => ∃ j : Nat, j ≤ 64 ∧ s25 = .int .i64 (j : Int) ∧ MR w wr g6 g7 (xorF kz 54 j) (xorF kz 92 j)) (fun s25 _ => 64 - (intOf s25).toNat)
      case atStart => exact ⟨0, by omega, rfl, by rw [xorF_zero, xorF_zero]; exact hM5⟩
      case round =>
        obtain ⟨j, hj, rfl, hM⟩ := hrel
        by_cases hlt : j < 64
        · obtain ⟨y, hy⟩ : ∃ y, kz[j]? = some y := ⟨_, List.getElem?_eq_getElem (by rw [Hkzl.out]; omega)⟩
          have q6 : wr.cell? ⟨g6, j, none⟩ = some (.int .u8 (y.toNat : Int)) := hM.i6.cell j y (by rw [xorF_get _ _ _ (by rw [Hkzl.out]; omega)]; exact hy)
          have q7 : wr.cell? ⟨g7, j, none⟩ = some (.int .u8 (y.toNat : Int)) := hM.i7.cell j y (by rw [xorF_get _ _ _ (by rw [Hkzl.out]; omega)]; exact hy)
          have f6 := hM.i6.fr j
          have f7 := hM.i7.fr j
          have Hy := Lib.hid hy
          have HM := Lib.hid hM
          clear hy hM hM5
          go_wp2
          go_roundw
          case rel =>
            refine ⟨j + 1, by omega, by go_num, ?_⟩
            rw [xor_u8 y 54 54 rfl, xor_u8 y 92 92 rfl, ← xorF_set _ _ _ _ Hy.out, ← xorF_set _ _ _ _ Hy.out]
            have h1 := HM.out.set6 (HM.out.i6.set_ j (y ^^^ 54)) (grownBy_setCell wr ⟨g6, j, none⟩ _) hne l6
            exact h1.set7 (h1.i7.set_ j (y ^^^ 92)) (grownBy_setCell _ ⟨g7, j, none⟩ _) hne l7
          case measure => simp [intOf]; omega
        · obtain rfl : j = 64 := by omega
          rw [show ((64 : Nat) : Int) = 64 from rfl]
          rw [xorF_all _ _ _ (by rw [Hkzl.out]; omega), xorF_all _ _ _ (by rw [Hkzl.out]; omega)] at hM
          have hil : (kz.map (· ^^^ 54)).length = 64 := by rw [List.length_map, Hkzl.out]
          have hol : (kz.map (· ^^^ 92)).length = 64 := by rw [List.length_map, Hkzl.out]
          have hmac : macS key ps.flatten = shaS (kz.map (· ^^^ 92) ++ shaS (kz.map (· ^^^ 54) ++ ps.flatten)) := by rw [← HKZ.out]; rfl
          have Hmac := Lib.hid hmac
          clear hmac
          obtain ⟨x6, hx6⟩ : ∃ x6, kz.map (· ^^^ 54) = x6 := ⟨_, rfl⟩
          obtain ⟨x7, hx7⟩ : ∃ x7, kz.map (· ^^^ 92) = x7 := ⟨_, rfl⟩
          rw [hx6] at hM hil Hmac
          rw [hx7] at hM hol Hmac
          clear hx6 hx7 hM5
          obtain ⟨W6, rfl⟩ : ∃ W6, W6 = wr := ⟨wr, rfl⟩
          have hsz6 := hM.bel.size
          obtain ⟨vs, hv, hpn, hpp⟩ := HPS.out.below hM.bel (Nat.le_refl _)
          have Hpp := Lib.hid hpp
          have hK6 := HK.out.below hM.bel (Nat.le_refl _)
          have Hil := Lib.hid hil
          have Hol := Lib.hid hol
          clear hpp hil hol
          go_upto_region 14 with (first
            | (at_builtin; refine L_append tS (OW_made _ w.heap.size _ 1 #[_] 1 hsz6 rfl (by unfold maxLen; omega) (by simp [Value.oneCell'])) (hv.alloc _) _ _ rfl rfl rfl rfl (by omega) (by unfold maxLen; omega) (by simp; omega) ?_; intro a8 c8 w8 o8 g8; have hB8 : Below W6.heap.size W6 w8 := (below_alloc W6 _).grown g8 (by simp) (by intro k hk; cases hk; exact Nat.le_refl _); have hM8 := hM.grown hB8; have hx8 := hM8.i6.bs (by rw [Hil.out]; unfold maxLen; omega); rw [Hil.out] at hx8; have hPS8 := PS_cons o8 hx8 hpn (fun i p hi => by obtain ⟨a', m', c', h1, h2⟩ := Hpp.out i p hi; exact ⟨a', m', c', h1, RS.below h2 hB8 (Nat.le_refl _)⟩); have hK8 := hK6.below hB8 (Nat.le_refl _); have hfl8 : (x6 :: ps).flatten.length ≤ 1099511627776 := by rw [List.flatten_cons, List.length_append, Hil.out]; have := HL.out; omega)
            | (go_at_call 70; refine (sum_any _ (x6 :: ps) hPS8 hfl8 hK8).mono ?_; rintro e w9 ⟨rfl, hB9⟩)
            | (refine L_store32 rfl _ _ rfl rfl rfl (AB_zeros _ (by simp)) (by simp) (shaS_len _) ?_; intro w10 hA10 hg10))
          have hb9 := hB9.size
          have hM10 := (hM8.grown hB9).grown (((below_alloc w9 _).grown hg10 (by simp) (by intro k hk; cases hk; omega)))
          have hK10 := HK.out.below hM10.bel (Nat.le_refl _)
          have hx10 := hA10.bs (by rw [shaS_len]; unfold maxLen; omega)
          rw [shaS_len] at hx10
          have hx7 := hM10.i7.bs (by rw [Hol.out]; unfold maxLen; omega)
          rw [Hol.out] at hx7
          try rw [show (x6 :: ps).flatten = x6 ++ ps.flatten from by simp] at hx10
          have hsz10 := hM10.bel.size
          go_wp2_with (first
            | (go_at_call 70; refine (sum_two _ (by simp) hx7 hx10 (by omega) hK10).mono ?_; rintro e w11 ⟨rfl, hB11⟩; have hM11 := hM10.grown hB11)
            | (refine L_store32 rfl _ _ rfl rfl rfl hM11.out (by simp) (shaS_len _) ?_; intro w12 hA12 hg12))
          have hi32 : (Tryd.prog.info? 26).map (·.size) = some ((shaS (x7 ++ shaS (x6 ++ ps.flatten))).map B).toArray.size := by rw [List.size_toArray, List.length_map, shaS_len]; kernel_rfl
          refine bodyPost_ret_by (results_cell_row rfl _ _ _ _ _ _ _ rfl hA12 Tryd.underlying26 rfl hi32) rfl ⟨by rw [Hmac.out], ?_⟩
          exact hM11.bel.grown hg12 hM11.bel.size (fun k hk => by cases hk; exact Nat.le_refl _)
end Go.Proofs.YtkhcpnmbhbhcgaaDoor
