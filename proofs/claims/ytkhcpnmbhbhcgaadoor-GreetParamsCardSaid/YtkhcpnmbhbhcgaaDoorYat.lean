/- texts K1 G9 K6 in one. -/
import Derived.Test.YtkhcpnmbhbhcgaaDoorYak
import Derived.Test.YtkhcpnmbhbhcgaaDoorYap
import Derived.Test.YtkhcpnmbhbhcgaaDoorYaj
import Derived.Stop.BytesEq

/- pieces of slices; two arrays of 32 bytes. -/
set_option maxRecDepth 100000
set_option linter.unusedVariables false
namespace Go.Proofs.YtkhcpnmbhbhcgaaDoor
open Go.RowKit Go.Joins
theorem btrans {w w1 w2 : World} (h : Below w.heap.size w w1) (k : Below w1.heap.size w1 w2) : Below w.heap.size w w2 := h.trans (k.mono h.size)
theorem eq32 (xs : List UInt8) (h : xs.length = 32) (W : World) : (Op.equalIn 10000 26 (.agg (xs.map B).toArray) (.agg (xs.map B).toArray)).run Tryd.prog W = .ok true W := by
  have hz : ∀ w, (Go.sizeOf 5).run Tryd.prog w = .ok 1 w := fun w => by have := tB.sizeOf (w := w); rwa [tB.elem] at this
  have h2 := run_equalIn_bytes (P := Tryd.prog) W 9998 26 5 32 Tryd.underlying26 Tryd.underlying5 hz xs xs h h
  rw [beq_self_eq_true] at h2
  exact h2
end Go.Proofs.YtkhcpnmbhbhcgaaDoor

/- ring.Expand: keys drawn out of keys. -/
set_option maxRecDepth 100000
set_option linter.unusedVariables false
namespace Go.Proofs.YtkhcpnmbhbhcgaaDoor
open Go.RowKit Go.Joins
/-- the i-th piece; all pieces up to the i-th; n bytes of them -/
def lastS (key info : List UInt8) : Nat → List UInt8
  | 0 => []
  | i + 1 => macS key (lastS key info i ++ info ++ [UInt8.ofNat (i + 1)])
def outS (key info : List UInt8) : Nat → List UInt8
  | 0 => []
  | i + 1 => outS key info i ++ lastS key info (i + 1)
def expS (key info : List UInt8) (n : Nat) : List UInt8 := (outS key info ((n + 31) / 32)).take n
theorem lastS_len (key info : List UInt8) (i : Nat) : (lastS key info (i + 1)).length = 32 := shaS_len _
theorem lastS_le (key info : List UInt8) (i : Nat) : (lastS key info i).length ≤ 32 := by
  cases i with
  | zero => simp [lastS]
  | succ i => rw [lastS_len]; omega
theorem outS_len (key info : List UInt8) (i : Nat) : (outS key info i).length = 32 * i := by
  induction i with
  | zero => rfl
  | succ i ih => show (outS key info i ++ lastS key info (i + 1)).length = _; rw [List.length_append, ih, lastS_len]; omega
theorem runB_hm {W0 : World} {a : Option Addr} {n c : Nat} {xs : List UInt8} (hx : BS W0 a n c xs) :
    BS W0 a n n xs ∧ ∀ W, (Instr.slice 22 (.slice a n c) none (some (.int .i64 (n : Int))) (some (.int .i64 (n : Int)))).run Tryd.prog W = .ok (.slice a n n) W := by
  have hle := RS.le hx
  have hl := BS.len hx
  have h := RS.cut hx 0 n n (Nat.zero_le _) (Nat.le_refl _) (Nat.le_refl _) hle
  have ea : (if n = 0 then a else a.map (·.add (0 * 1))) = a := by split <;> cases a <;> simp [Addr.add]
  have el : ((xs.map B).drop (0 * 1)).take ((n - 0) * 1) = xs.map B := by
    rw [Nat.zero_mul, List.drop_zero, List.take_of_length_le (by simp; omega)]
  rw [ea, el] at h
  refine ⟨h, fun W => ?_⟩
  have hz : (Go.sizeOf (Tryd.prog.elem 22)).run Tryd.prog W = .ok 1 W := tB.sizeOf
  rw [run_slice_hm W 22 _ _ _ tB.und' .i64 .i64 _ _ (by omega) (by omega) (by omega), hz]
  simp only [Result.andThen, Int.toNat_natCast]
  rw [sliced_eq, ea]
  rfl
theorem clip_any (w : World) {a : Option Addr} {n c : Nat} {xs : List UInt8} (hx : BS w a n c xs) : Calls Tryd.prog 79 #[.slice a n c] w fun e w' => e = .returned (.slice a n n) ∧ w' = w := by
  obtain ⟨h1, h2⟩ := runB_hm hx
  go_enter Tryd.func79, Tryd.ntmps79
  go_wp2
  go_ret
  exact ⟨rfl, rfl⟩
theorem PS_three {w : World} {a b d : Option Addr} {n c m k l j : Nat} {p q r : List UInt8} {g : Nat} (hg : g = w.heap.size) (h : BS w a n c p) (h2 : BS w b m k q) (h3 : BS w d l j r) : PS (w.alloc (.cells #[.slice a n c, .slice b m k, .slice d l j] 22)) (some ⟨g, 0, none⟩) 3 3 [p, q, r] := by
  subst hg
  refine ⟨[.slice a n c, .slice b m k, .slice d l j], RS_new w _ #[.slice a n c, .slice b m k, .slice d l j] 3 rfl (by omega) (by simp [Value.oneCell']), rfl, fun i s hi => ?_⟩
  match i, hi with
  | 0, hi => cases hi; exact ⟨a, n, c, rfl, RS.alloc h _⟩
  | 1, hi => cases hi; exact ⟨b, m, k, rfl, RS.alloc h2 _⟩
  | 2, hi => cases hi; exact ⟨d, l, j, rfl, RS.alloc h3 _⟩
  | i + 3, hi => simp at hi
/-- between two rounds of Expand -/
structure ER (w wr : World) (key info : List UInt8) (i : Nat) (a : Option Addr) (c : Nat) (b : Option Addr) (m k : Nat) : Prop where
  own : OW wr w.heap.size 5 1 a (32 * i) c ((outS key info i).map B)
  last : BS wr b m k (lastS key info i)
  bel : Below w.heap.size w wr
set_option maxHeartbeats 4000000 in
theorem expand_new (w : World) {a0 a1 : Option Addr} {n0 c0 n1 c1 : Nat} {key info : List UInt8} (hk : BS w a0 n0 c0 key) (hi : BS w a1 n1 c1 info) (h0 : n0 ≤ 549755813888) (h1 : n1 ≤ 549755813888) (hK : KT w) (N : Nat) (hN : N ≤ 8160) :
    Calls Tryd.prog 75 #[.slice a0 n0 c0, .slice a1 n1 c1, .int .i64 (N : Int)] w fun e w' => ∃ a, e = .returned (.tuple #[.slice a N N, .int .i64 0]) ∧ BS w' a N N (expS key info N) ∧ Below w.heap.size w w' ∧ ∀ ad, a = some ad → w.heap.size ≤ ad.block := by
  have HK := Lib.hid hK
  have Hk := Lib.hid hk
  have Hi := Lib.hid hi
  have hil := Lib.hid (BS.len hi)
  clear hK hk hi
  have hE0 : ER w w key info 0 none 0 none 0 0 := ⟨OW_nil _ _ _ _, RS_nil w 1, Below.refl _ _⟩
  go_enter Tryd.func75, Tryd.ntmps75
  go_wp2
  go_loopw [8, 9, 10] (fun s8 s9 s10 wr => ∃ (i : Nat) (a : Option Addr) (c : Nat) (b : Option Addr) (m k : Nat), 32 * i < N + 32 ∧ s10 = .int .i64 ((i : Int) + 1) ∧ s8 = .slice a (32 * i) c ∧ s9 = .slice b m k ∧ ER w wr key info i a c b m k) (fun _ _ s10 _ => 257 - (intOf s10).toNat)
  case atStart => exact ⟨0, _, _, _, _, _, by omega, rfl, rfl, rfl, hE0⟩
  case round =>
    obtain ⟨i, a, c, b, m, k, hi, rfl, rfl, rfl, hE⟩ := hrel
    clear hE0
    by_cases hlt : 32 * i < N
    · have hi254 : i ≤ 254 := by omega
      have hE' := Lib.hid hE
      have hw := hE.bel
      have hsz := hw.size
      have hll := lastS_le key info i
      have hml := BS.len hE.last
      clear hE
      have hsq := hw.size
      have hx1 := BS_lit wr [UInt8.ofNat (i + 1)] #[.int .u8 ((i : Int) + 1)] (0, 0) (by rw [bx (i + 1) _ (by omega)]; rfl) 1 rfl (by omega) rfl
      have hps := PS_three (g := wr.heap.size + 1) (by simp) (RS.alloc hE'.out.last (.cells #[.int .u8 ((i : Int) + 1)] 5)) (RS.alloc (RS.below Hi.out hw (Nat.le_refl _)) (.cells #[.int .u8 ((i : Int) + 1)] 5)) hx1
      have hkr := RS.alloc (RS.alloc (RS.below Hk.out hw (Nat.le_refl _)) (.cells #[.int .u8 ((i : Int) + 1)] 5)) (.cells #[.slice b m k, .slice a1 n1 c1, .slice (some ⟨wr.heap.size, 0, none⟩) 1 1] 22)
      have hKr := ((HK.out.below hw (Nat.le_refl _)).alloc (.cells #[.int .u8 ((i : Int) + 1)] 5)).alloc (.cells #[.slice b m k, .slice a1 n1 c1, .slice (some ⟨wr.heap.size, 0, none⟩) 1 1] 22)
      have hfl : [lastS key info i, info, [UInt8.ofNat (i + 1)]].flatten = lastS key info i ++ info ++ [UInt8.ofNat (i + 1)] := by simp
      have Hfl := Lib.hid hfl
      have hln : [lastS key info i, info, [UInt8.ofNat (i + 1)]].flatten.length ≤ 1099511627776 - 200 := by rw [hfl, List.length_append, List.length_append, hil.out]; simp; omega
      have Hps := Lib.hid hps
      clear hfl hx1 hps
      have hmac : macS key (lastS key info i ++ info ++ [UInt8.ofNat (i + 1)]) = lastS key info (i + 1) := rfl
      have Hmac := Lib.hid hmac
      clear hmac
      go_upto_region 11 with (first
        | (go_at_call 67; refine (mac_any _ [lastS key info i, info, [UInt8.ofNat (i + 1)]] hkr Hps.out hln (by omega) (by omega) hKr).mono ?_; rintro e w5 ⟨rfl, hB5⟩; rw [Hfl.out, Hmac.out])
        | (refine L_store32 rfl _ _ rfl rfl rfl (AB_zeros _ (by simp)) (by simp) (lastS_len _ _ _) ?_; intro w6 hA6 hg6))
      have b5 : Below wr.heap.size wr w5 := ((below_alloc wr _).alloc (by simp) _).trans (hB5.mono (by simp; omega))
      have z5 := b5.size
      have b6 : Below wr.heap.size wr w6 := (b5.alloc z5 _).grown hg6 (by simp; omega) (by intro k hk; cases hk; omega)
      have hl6 := hA6.bs (by rw [lastS_len]; unfold maxLen; omega)
      rw [lastS_len] at hl6
      have o6 := hE'.out.own.below b6 (Nat.le_refl _)
      have z6 := b6.size
      have hb6 := btrans hw b6
      clear hB5 hA6 hg6 hkr hKr b5
      go_upto_region 8 with (at_builtin; go_loud (refine L_append tB o6 hl6 _ _ rfl rfl rfl rfl (by omega) (by unfold maxLen; omega) (by omega) ?_); intro a7 c7 w7 o7 g7)
      have hl7 : BS w7 (some ⟨w5.heap.size, 0, none⟩) 32 32 (lastS key info (i + 1)) := RS.grown hl6 g7 (by
        intro ad had he
        cases had
        obtain ⟨ad2, h1, h2⟩ := Option.map_eq_some_iff.1 he.symm
        have := (hE'.out.own.base_le h1).2
        simp at h2; omega)
      have hE7 : ER w w7 key info (i + 1) a7 c7 (some ⟨w5.heap.size, 0, none⟩) 32 32 := by
        refine ⟨?_, hl7, hb6.grown g7 hb6.size (row_ge (fun ad ha => (hE'.out.own.base_le ha).1) (Nat.le_refl _))⟩
        show OW w7 w.heap.size 5 1 a7 (32 * i + 32) c7 ((outS key info i ++ lastS key info (i + 1)).map B)
        rw [List.map_append]; exact o7
      have HE7 := Lib.hid hE7
      clear o7 g7 hl7 hl6 o6 hE7 b6 hb6 hw
      go_wp2
      go_roundw
      case rel => exact ⟨i + 1, a7, c7, _, 32, 32, by omega, by go_num, rfl, rfl, HE7.out⟩
      case measure => simp [intOf]; omega
    · have hiN : (N + 31) / 32 = i := by omega
      have hbs : BS wr a (32 * i) c (outS key info i) := hE.own.rs
      have hle : N ≤ 32 * i := by omega
      have HE := Lib.hid hE
      have Hbs := Lib.hid hbs
      have hres : (outS key info i).take N = expS key info N := by unfold expS; rw [hiN]
      have Hres := Lib.hid hres
      obtain ⟨ht, hts⟩ := runB_h hbs N hle
      obtain ⟨hm, _⟩ := runB_hm ht
      have Hm := Lib.hid hm
      clear hE hbs hres hm hiN
      go_wp2_with (go_at_call 79; refine (clip_any _ ht).mono ?_; rintro e w3 ⟨rfl, rfl⟩)
      go_ret2
      exact ⟨a, rfl, by rw [← Hres.out]; exact Hm.out, HE.out.bel, fun ad ha => (HE.out.own.base_le ha).1⟩
theorem expand_any (w : World) {a0 a1 : Option Addr} {n0 c0 n1 c1 : Nat} {key info : List UInt8} (hk : BS w a0 n0 c0 key) (hi : BS w a1 n1 c1 info) (h0 : n0 ≤ 549755813888) (h1 : n1 ≤ 549755813888) (hK : KT w) (N : Nat) (hN : N ≤ 8160) :
    Calls Tryd.prog 75 #[.slice a0 n0 c0, .slice a1 n1 c1, .int .i64 (N : Int)] w fun e w' => ∃ a, e = .returned (.tuple #[.slice a N N, .int .i64 0]) ∧ BS w' a N N (expS key info N) ∧ Below w.heap.size w w' :=
  (expand_new w hk hi h0 h1 hK N hN).mono fun e w' ⟨a, h1, h2, h3, _⟩ => ⟨a, h1, h2, h3⟩
theorem outS_take (key info : List UInt8) (i j : Nat) (h : i ≤ j) : outS key info i = (outS key info j).take (32 * i) := by
  induction j with
  | zero => obtain rfl : i = 0 := by omega
            rfl
  | succ j ih =>
    rcases Nat.lt_or_ge i (j + 1) with hlt | hge
    · rw [ih (by omega)]
      show _ = (outS key info j ++ lastS key info (j + 1)).take (32 * i)
      rw [List.take_append_of_le_length (by rw [outS_len]; omega)]
    · obtain rfl : i = j + 1 := by omega
      rw [List.take_of_length_le (by rw [outS_len]; exact Nat.le_refl _)]
theorem expS_len (key info : List UInt8) (n : Nat) : (expS key info n).length = n := by
  unfold expS; rw [List.length_take, outS_len]; omega
theorem expS_take (key info : List UInt8) (n m : Nat) (h : n ≤ m) : (expS key info m).take n = expS key info n := by
  unfold expS
  rw [List.take_take, Nat.min_eq_left h, outS_take key info ((n + 31) / 32) ((m + 31) / 32) (by omega), List.take_take, Nat.min_eq_left (by omega)]
theorem made_bs {w w' : World} {a : Option Addr} {n k c : Nat} {xs : List UInt8} (h : OW w' w.heap.size 5 1 a (min n k) c ((xs.map B).take (min n k))) : BS w' a (min n k) c (xs.take (min n k)) := by
  have h2 := h.rs
  unfold BS
  rw [List.map_take]; exact h2
end Go.Proofs.YtkhcpnmbhbhcgaaDoor

/- ring.Extract. -/
set_option maxRecDepth 100000
set_option linter.unusedVariables false
namespace Go.Proofs.YtkhcpnmbhbhcgaaDoor
open Go.RowKit Go.Joins
theorem extract_any (w : World) {a0 a1 : Option Addr} {n0 c0 n1 c1 : Nat} {salt key : List UInt8} (hs : BS w a0 n0 c0 salt) (hk : BS w a1 n1 c1 key) (h0 : n0 ≤ 549755813888) (h1 : n1 ≤ 549755813888) (hK : KT w) :
    Calls Tryd.prog 69 #[.slice a0 n0 c0, .slice a1 n1 c1] w fun e w' => e = .returned (.agg ((macS salt key).map B).toArray) ∧ Below w.heap.size w w' := by
  have hl := BS.len hk
  have hZ := AB_zeros w rfl
  have hps := PS_one (g := w.heap.size + 1) (by simp) (RS.alloc hk (.cells #[.int .u8 0, .int .u8 0, .int .u8 0, .int .u8 0, .int .u8 0, .int .u8 0, .int .u8 0, .int .u8 0, .int .u8 0, .int .u8 0, .int .u8 0, .int .u8 0, .int .u8 0, .int .u8 0, .int .u8 0, .int .u8 0, .int .u8 0, .int .u8 0, .int .u8 0, .int .u8 0, .int .u8 0, .int .u8 0, .int .u8 0, .int .u8 0, .int .u8 0, .int .u8 0, .int .u8 0, .int .u8 0, .int .u8 0, .int .u8 0, .int .u8 0, .int .u8 0] 26))
  have hfl : [key].flatten.length ≤ 1099511627776 - 200 := by simp; omega
  have Hfl := Lib.hid hfl
  have HK := Lib.hid hK
  have Hps := Lib.hid hps
  have HZ := Lib.hid hZ
  clear hfl hK hps hZ
  have hi32 : (Tryd.prog.info? 26).map (·.size) = some ((macS salt key).map B).toArray.size := by rw [List.size_toArray, List.length_map, show (macS salt key).length = 32 from shaS_len _]; kernel_rfl
  have Hi := Lib.hid hi32
  clear hi32
  go_enter Tryd.func69, Tryd.ntmps69
  go_wp2_with (first
    | (go_at_call 67; refine (mac_any _ [key] (RS.alloc (RS.alloc hs _) _) Hps.out Hfl.out (by omega) (by omega) ((HK.out.alloc _).alloc _)).mono ?_; rintro e w5 ⟨rfl, hB5⟩; rw [show [key].flatten = key from by simp])
    | (refine L_store32 rfl _ _ rfl rfl rfl (AB.grown ((hB5.block w.heap.size (by simp; omega)).trans ((Below.heap_alloc _ _ _ (by simp)).trans HZ.out) : AB w5 w.heap.size 26 (List.replicate 32 0)) (World.grownBy.refl w5 none) (by simp)) (by simp) (shaS_len _) ?_; intro w6 hA6 hg6))
  have b5 : Below w.heap.size w w5 := ((below_alloc w _).alloc (by simp) _).trans (hB5.mono (by simp; omega))
  refine bodyPost_ret_by (results_cell_row rfl _ _ _ _ _ _ _ rfl hA6 Tryd.underlying26 rfl Hi.out) rfl ⟨rfl, ?_⟩
  exact b5.grown hg6 b5.size (fun k hk => by cases hk; exact Nat.le_refl _)
end Go.Proofs.YtkhcpnmbhbhcgaaDoor
