/- texts DU DG DH DI DD DJ in one. -/
import Derived.Test.YtlncnjcbgfeaoaaDoorYat
import Derived.Test.YtlncnjcbgfeaoaaDoorYaz
import Derived.Test.YtlncnjcbgfeaoaaDoorYbh
import Derived.Test.YtlncnjcbgfeaoaaDoorYag
import Derived.Deep.QuietTactic
import Derived.BigQuiet

/- what the laws of salt with the reference share. -/
set_option maxRecDepth 100000
set_option linter.unusedVariables false
namespace Go.Proofs.YtlncnjcbgfeaoaaDoor
open Go.RowKit
theorem cutP (w : World) {a : Option Addr} {n c : Nat} {xs P : List UInt8} (hx : BS w a n c xs) (K : Int) (k N : Nat) (hK : K = k) (hk : k ≤ 140737488355328) (hN : min n k = N) (hP : xs.take N = P) :
    Calls Tryd.prog 9 #[.slice a n c, .int .i64 K] w fun e w' => ∃ a' c', e = .returned (.slice a' N c') ∧ OW w' w.heap.size 5 1 a' N c' (P.map B) ∧ Below w.heap.size w w' := by
  subst hK
  refine (cut_any w hx (k : Int) (by omega) (by omega)).mono ?_
  rintro e w' ⟨a', c', h1, h2, h3⟩
  rw [Int.toNat_natCast, hN] at h1 h2
  rw [← List.map_take, hP] at h2
  exact ⟨a', c', h1, h2, h3⟩
theorem copyP (w : World) {a : Option Addr} {n c : Nat} {xs : List UInt8} (hx : BS w a n c xs) (hn : n ≤ 140737488355328) :
    Calls Tryd.prog 18 #[.slice a n c] w fun e w' => ∃ a' c', e = .returned (.slice a' n c') ∧ OW w' w.heap.size 5 1 a' n c' (xs.map B) ∧ Below w.heap.size w w' := copy_any w hx hn
/-- s[:j] into the spare room -/
theorem runB_hc (a : Option Addr) (n c j : Nat) (hj : j ≤ c) :
    ∀ W, (Instr.slice 23 (.slice a n c) none (some (.int .i64 (j : Int))) none).run Tryd.prog W = .ok (.slice a j c) W := by
  intro W
  have hz : (Go.sizeOf (Tryd.prog.elem 23)).run Tryd.prog W = .ok 1 W := tB.sizeOf
  rw [run_slice_h W 23 _ _ _ tB.und' .i64 _ (by omega) (by omega), hz]
  simp only [Result.andThen, Int.toNat_natCast]
  rw [sliced_eq]
  split <;> cases a <;> simp [Addr.add]
/-- the bytes with one more in their spare room, cut off again -/
structure QS (w : World) (base g n c : Nat) (xs : List UInt8) : Prop where
  own : OW w base 5 1 (some ⟨g, 0, none⟩) (n + 1) c (xs.map B ++ [.int .u8 165])
  len : xs.length = n
theorem QS.bs {w : World} {base g n c : Nat} {xs : List UInt8} (h : QS w base g n c xs) : BS w (some ⟨g, 0, none⟩) n c xs := by
  have h1 := h.own.rs.head n (by omega)
  rw [Nat.mul_one, List.take_append_of_le_length (by rw [List.length_map, h.len]; exact Nat.le_refl _), List.take_of_length_le (by rw [List.length_map, h.len]; exact Nat.le_refl _)] at h1
  exact h1
theorem QS.cell {w : World} {base g n c : Nat} {xs : List UInt8} (h : QS w base g n c xs) : w.cell? ⟨g, n, none⟩ = some (.int .u8 165) :=
  h.own.cell n _ (by rw [List.getElem?_append_right (by rw [List.length_map, h.len]; exact Nat.le_refl _), List.length_map, h.len, Nat.sub_self]; rfl)
theorem QS.room {w : World} {base g n c : Nat} {xs : List UInt8} (h : QS w base g n c xs) : n + 1 ≤ c := h.own.rs.le
end Go.Proofs.YtlncnjcbgfeaoaaDoor

/- the reference's Stream and Mask. -/
set_option maxRecDepth 100000
set_option linter.unusedVariables false
namespace Go.Proofs.YtlncnjcbgfeaoaaDoor
open Go.RowKit
set_option maxHeartbeats 4000000 in
theorem rstream_any (w : World) {a b : Option Addr} {n c m e : Nat} {key nonce d : List UInt8} (hk : BS w a n c key) (hn : BS w b m e nonce) (hkl : key.length = 32) (hnl : nonce.length = 12) (fr : Nat) (hfr : fr < 4294967296) (N : Nat) (hN : N ≤ 65536) (hD : SM key nonce fr N d) :
    Calls Tryd.prog 79 #[.slice a n c, .slice b m e, .int .u32 (fr : Int), .int .i64 (N : Int)] w fun x w' => ∃ a c, x = .returned (.tuple #[.slice a N c, .int .i64 0]) ∧ OW w' w.heap.size 5 1 a N c (d.map B) ∧ Below w.heap.size w w' := by
  have HK := Lib.hid hk
  have HNn := Lib.hid hn
  clear hk hn
  go_enter Tryd.func79, Tryd.ntmps79
  go_wp2
  go_loopw [2, 10] (fun s2 s10 wr => ∃ (k : Nat) (a : Option Addr) (c : Nat), 64 * k < N + 64 ∧ s2 = .int .u32 (((fr + k) % 4294967296 : Nat) : Int) ∧ s10 = .slice a (64 * k) c ∧ OW wr w.heap.size 5 1 a (64 * k) c ((strS key nonce fr k).map B) ∧ Below w.heap.size w wr) (fun _ s10 _ => 70000 - lenV s10)
  case atStart => exact ⟨0, none, 0, by omega, by rw [Nat.add_zero, Nat.mod_eq_of_lt hfr], rfl, OW_nil _ _ _ _, Below.refl _ _⟩
  case round =>
    obtain ⟨k, a', c', hk, rfl, rfl, ho, hB⟩ := hrel
    by_cases hlt : 64 * k < N
    · have hsz := hB.size
      obtain ⟨bk, hbk⟩ := ST_ex key nonce ((fr + k) % 4294967296)
      obtain ⟨q, hq⟩ : ∃ q, (fr + k) % 4294967296 = q := ⟨_, rfl⟩
      rw [hq] at hbk ⊢
      have hq32 : q < 4294967296 := by omega
      have hstep : EB (strS key nonce fr (k + 1)) (strS key nonce fr k ++ bk) := ⟨by rw [strS, hq]; show _ ++ outC _ _ 16 = _; rw [hbk.h]⟩
      have hnq : ((q : Int) + 1) % 4294967296 = (((fr + (k + 1)) % 4294967296 : Nat) : Int) := by omega
      have Hblk := Lib.hid (rblock_any wr (RS.below HK.out hB (Nat.le_refl _)) (RS.below HNn.out hB (Nat.le_refl _)) hkl hnl q hq32 hbk)
      have Ho := Lib.hid ho
      have HB := Lib.hid hB
      obtain ⟨V, hV⟩ : ∃ V, strS key nonce fr k = V := ⟨_, rfl⟩
      rw [hV] at Ho hstep
      have Hnq := Lib.hid hnq
      clear hq hbk ho hB hV hnq
      go_wp2_with (first
        | (go_at_call 58; refine Hblk.out.mono ?_; rintro x w2 ⟨a2, c2, rfl, o2, B2⟩)
        | (at_builtin; refine L_append tB (Ho.out.below B2 (Nat.le_refl _)) o2.rs _ _ rfl rfl rfl rfl (by omega) (by unfold maxLen; omega) (by have := B2.size; omega) ?_; intro a4 c4 w4 o4 g4))
      have hb2 := HB.out.trans (B2.mono hsz)
      have hb4 := Lib.hid (hb2.grown g4 hb2.size (row_le (fun ad ha => (Ho.out.base_le ha).1) (Nat.le_refl _)))
      have O4 := Lib.hid (show OW w4 w.heap.size 5 1 a4 (64 * (k + 1)) c4 ((strS key nonce fr (k + 1)).map B) by rw [hstep.h, List.map_append]; exact o4)
      clear o4 g4 o2 B2 hb2
      go_roundw
      case rel => exact ⟨k + 1, a4, c4, by omega, by rw [← Hnq.out], rfl, O4.out, hb4.out⟩
      case measure => simp [lenV]; omega
    · have hkN : (N + 63) / 64 = k := by omega
      have hres := hD.h
      rw [hkN] at hres
      have hh := ho.head N (by omega)
      rw [Nat.mul_one, ← List.map_take, hres] at hh
      have HO := Lib.hid ho
      have HH := Lib.hid hh
      have HB := Lib.hid hB
      clear ho hB hres hkN hh
      go_wp2_with (refine L_slice_h tB HO.out.rs N _ _ rfl rfl _ _ rfl rfl rfl (by omega) ?_; intro hb6)
      go_ret2
      exact ⟨_, _, rfl, HH.out, HB.out⟩
theorem rstream_neg (w : World) (v1 v2 v3 : Value) (N : Int) (hN : N < 0) :
    Calls Tryd.prog 79 #[v1, v2, v3, .int .i64 N] w fun e w' => e = .returned (.tuple #[.slice none 0 0, .int .i64 1]) ∧ Below w.heap.size w w' := by
  go_enter Tryd.func79, Tryd.ntmps79
  go_wp2
  go_ret2
  exact ⟨rfl, Below.refl _ _⟩
theorem rstream_big (w : World) (v1 v2 v3 : Value) (N : Int) (hN : 65536 < N) :
    Calls Tryd.prog 79 #[v1, v2, v3, .int .i64 N] w fun e w' => e = .returned (.tuple #[.slice none 0 0, .int .i64 3]) ∧ Below w.heap.size w w' := by
  go_enter Tryd.func79, Tryd.ntmps79
  go_wp2
  go_ret2
  exact ⟨rfl, Below.refl _ _⟩
end Go.Proofs.YtlncnjcbgfeaoaaDoor

/- the reference's Mask. -/
set_option maxRecDepth 100000
set_option linter.unusedVariables false
namespace Go.Proofs.YtlncnjcbgfeaoaaDoor
open Go.RowKit
set_option maxHeartbeats 4000000 in
theorem rmask_any (w : World) {a b : Option Addr} {n c m e : Nat} {key sample d : List UInt8} (hk : BS w a n c key) (hs : BS w b m e sample) (hkl : key.length = 32) (hsl : sample.length = 16) (hD : ST key (sample.drop 4) (le4 sample) d) :
    Calls Tryd.prog 40 #[.slice a n c, .slice b m e] w fun x w' => ∃ a' c', x = .returned (.slice a' 5 c') ∧ OW w' w.heap.size 5 1 a' 5 c' ((d.take 5).map B) ∧ Below w.heap.size w w' := by
  have hml := BS.len hs
  have hm16 : m = 16 := by omega
  subst hm16
  have hmc := RS.le hs
  have hmm := RS.max hs
  unfold maxLen at hmm
  obtain ⟨bb, ob, rfl, hc⟩ := BS.at_ hs (by omega)
  obtain ⟨x0, x1, x2, x3, r, hxs⟩ := drop4 sample 0 (by omega)
  rw [Nat.mul_zero, List.drop_zero] at hxs
  have q0 := hc 0 x0 (by rw [hxs]; rfl)
  have q1 := hc 1 x1 (by rw [hxs]; rfl)
  have q2 := hc 2 x2 (by rw [hxs]; rfl)
  have q3 := hc 3 x3 (by rw [hxs]; rfl)
  have t0 := x0.toNat_lt
  have t1 := x1.toNat_lt
  have t2 := x2.toNat_lt
  have t3 := x3.toNat_lt
  rw [Nat.add_zero] at q0
  have hle : le4 sample = x0.toNat + 256 * x1.toNat + 65536 * x2.toNat + 16777216 * x3.toNat := by rw [hxs]; rfl
  obtain ⟨q, hq⟩ : ∃ q, le4 sample = q := ⟨_, rfl⟩
  rw [hq] at hD hle
  have hq32 : q < 4294967296 := by omega
  have hqi : (x0.toNat : Int) + 256 * (x1.toNat : Int) + 65536 * (x2.toNat : Int) + 16777216 * (x3.toNat : Int) = (q : Int) := by omega
  have hs4 : (sample.drop 4).length = 12 := by rw [List.length_drop]; omega
  obtain ⟨b4, hb4, hsl4⟩ := runB_l hs 4 (by omega)
  have Hblk := Lib.hid (fun k => rblock_any (w.drewN k) (RS.drewN hk k) (RS.drewN hb4 k) hkl hs4 q hq32 hD)
  have hsl5 : ∀ W, (Instr.slice 23 (.slice (some ⟨bb, ob, none⟩) 16 e) (some (.int .i64 4)) none none).run Tryd.prog W = .ok (.slice b4 12 (e - 4)) W := hsl4
  have Hqi := Lib.hid hqi
  clear hc hxs hle hqi hq hs hk hb4 hsl4
  go_enter Tryd.func40, Tryd.ntmps40
  go_upto_region 1 with (fail)
  go_quiet (fail)
  rw [Hqi.out]
  clear q0 q1 q2 q3
  have hb0 : Below w.heap.size w (w.drewN nq) := below_drewN (Below.refl _ _) nq
  clear t0 t1 t2 t3 hD hsl hs4
  go_wp2_with (first
    | (go_at_call 58; refine (Hblk.out _).mono ?_; rintro x w6 ⟨a6, c6, rfl, o6, B6⟩)
    | (refine LB_slice_h tB o6.rs 5 _ _ rfl rfl _ _ rfl rfl rfl (by omega) ?_; intro h5))
  have hh := o6.head 5 (by omega)
  rw [Nat.mul_one, ← List.map_take] at hh
  go_ret
  exact ⟨_, _, rfl, hh, hb0.trans B6⟩
end Go.Proofs.YtlncnjcbgfeaoaaDoor

/- the reference's fill. -/
set_option maxRecDepth 100000
set_option linter.unusedVariables false
namespace Go.Proofs.YtlncnjcbgfeaoaaDoor
open Go.RowKit
set_option maxHeartbeats 4000000 in
theorem rfill_any (w : World) (base : Nat) {a : Option Addr} {n c : Nat} {xs : List UInt8} (ho : OW w base 5 1 a n c (xs.map B)) (hbase : base ≤ w.heap.size) (hn : n ≤ 1099511627776) :
    Calls Tryd.prog 77 #[.slice a n c] w fun e w' => ∃ a' c', e = .returned (.slice a' (n + padN n) c') ∧ OW w' base 5 1 a' (n + padN n) c' ((xs ++ List.replicate (padN n) 0).map B) ∧ Below base w w' := by
  have HO0 := Lib.hid ho
  obtain ⟨N, hN⟩ : ∃ N, padN n = N := ⟨_, rfl⟩
  have hN16 : N < 16 := by unfold padN at hN; omega
  have hNm : (n + N) % 16 = 0 := by unfold padN at hN; omega
  have hlow : ∀ k, k < N → (n + k) % 16 ≠ 0 := by intro k hk; unfold padN at hN; omega
  have Hlow := Lib.hid hlow
  rw [hN]
  clear hN ho hlow
  go_enter Tryd.func77, Tryd.ntmps77
  go_wp2
  go_loopw [0] (fun s0 wr => ∃ (k : Nat) (a : Option Addr) (c : Nat), k ≤ N ∧ s0 = .slice a (n + k) c ∧ OW wr base 5 1 a (n + k) c ((xs ++ List.replicate k 0).map B) ∧ Below base w wr) (fun s0 _ => n + 16 - lenV s0)
  case atStart => exact ⟨0, a, c, by omega, rfl, by simpa using HO0.out, Below.refl _ _⟩
  case round =>
    obtain ⟨k, a', c', hk, rfl, ho, hb⟩ := hrel
    obtain ⟨m, hm⟩ : ∃ m, n + k = m := ⟨_, rfl⟩
    rw [hm] at ho ⊢
    obtain ⟨r, hr⟩ : ∃ r, m % 16 = r := ⟨_, rfl⟩
    have hrt : (m : Int).tmod 16 = (r : Int) := by rw [Int.tmod_eq_emod_of_nonneg (by omega)]; omega
    have hsz : base ≤ wr.heap.size := Nat.le_trans hbase hb.size
    have hlen := ho.rs.le
    by_cases hlt : k < N
    · have hr0 : r ≠ 0 := by have := Hlow.out k hlt; omega
      have hm2 : m ≤ 1099511627800 := by omega
      have HO := Lib.hid ho
      have HB := Lib.hid hb
      have Hm := Lib.hid hm
      clear ho hb hr hm HO0
      go_wp2_with (at_builtin; refine L_append tB (OW.alloc HO.out _) (RS_one _ _ _ rfl) _ _ rfl rfl rfl rfl (by omega) (by unfold maxLen; omega) (by simp; omega) ?_; intro a5 c5 w5 o5 g5)
      have B5 := Lib.hid ((HB.out.alloc hsz _).grown g5 (by simp; omega) (row_le (fun ad ha => (HO.out.base_le ha).1) (Nat.le_refl _)))
      have O5 := Lib.hid (show OW w5 base 5 1 a5 (n + (k + 1)) c5 ((xs ++ List.replicate (k + 1) 0).map B) by
        rw [show n + (k + 1) = m + 1 by have := Hm.out; omega, List.replicate_succ', ← List.append_assoc, List.map_append]; exact o5)
      clear o5 g5
      go_roundw
      case rel => exact ⟨k + 1, a5, c5, by omega, by rw [← Nat.add_assoc, Hm.out], O5.out, B5.out⟩
      case measure => have := Hm.out; simp [lenV]; omega
    · have hkN : k = N := by omega
      subst hkN
      have hr0 : r = 0 := by omega
      subst hr0
      rw [← hm] at ho ⊢
      have HO := Lib.hid ho
      have HB := Lib.hid hb
      clear ho hb hr HO0 Hlow
      go_wp2
      go_ret
      exact ⟨_, _, rfl, HO.out, HB.out⟩
end Go.Proofs.YtlncnjcbgfeaoaaDoor

/- the reference's Tag. -/
set_option maxRecDepth 100000
set_option linter.unusedVariables false
namespace Go.Proofs.YtlncnjcbgfeaoaaDoor
open Go.RowKit
/-- a digit of the key's first half, cut -/
def rc (key : List UInt8) (j : Nat) : Nat :=
  if j % 4 = 3 then (key.getD j 0).toNat % 16 else if j % 4 = 0 ∧ 0 < j then (key.getD j 0).toNat - (key.getD j 0).toNat % 4 else (key.getD j 0).toNat
def rD (key : List UInt8) (i : Nat) : List Nat := (List.range i).map (rc key)
theorem rD_len (key : List UInt8) (i : Nat) : (rD key i).length = i := by simp [rD]
theorem rD_succ (key : List UInt8) (i : Nat) : rD key (i + 1) = rD key i ++ [rc key i] := by simp [rD, List.range_succ]
theorem rc_lt (key : List UInt8) (j : Nat) : rc key j < 256 := by
  unfold rc
  have := (key.getD j 0).toNat_lt
  split
  · omega
  · split <;> omega
theorem rD_lt (key : List UInt8) (i : Nat) : ∀ x ∈ rD key i, x < 256 := by
  intro x hx
  obtain ⟨j, _, rfl⟩ := List.mem_map.1 hx
  exact rc_lt key j
theorem clA_rD (key : List UInt8) : (clA key 19 16).map (·.toNat) = rD key 16 ++ [0] := by
  apply List.ext_getElem?
  intro i
  rcases Nat.lt_or_ge i 17 with hi | hi
  · rw [List.getElem?_map, clA_get key 19 16 i hi]
    by_cases h : i = 16
    · subst h
      rw [if_pos rfl, List.getElem?_append_right (by rw [rD_len]; exact Nat.le_refl _), rD_len]; rfl
    · have hl := (key.getD i 0).toNat_lt
      rw [if_neg h, List.getElem?_append_left (by rw [rD_len]; omega)]
      unfold rD
      rw [List.getElem?_map, List.getElem?_range (by omega)]
      simp only [Option.map_some, Option.some.injEq]
      unfold rc
      by_cases h3 : i % 4 = 3
      · rw [if_pos (by omega), if_pos h3, UInt8.toNat_ofNat']; omega
      · rw [if_neg (by omega), if_neg h3]
        by_cases h0 : i % 4 = 0 ∧ 0 < i
        · rw [if_pos (by omega), if_pos h0, UInt8.toNat_ofNat']; omega
        · rw [if_neg (by omega), if_neg h0]
  · rw [List.getElem?_eq_none (by rw [List.length_map, clA_len]; exact hi), List.getElem?_eq_none (by rw [List.length_append, rD_len]; exact hi)]
theorem rD_val (key : List UInt8) : valD (rD key 16) = numL (clA key 19 16) := by
  rw [← valD_map, clA_rD, valD_append]; simp [valD]
theorem rD_val_lt (key : List UInt8) : valD (rD key 16) < 340282366920938463463374607431768211456 := by
  have := valD_lt (rD_lt key 16)
  rw [rD_len] at this
  have e : (256 : Nat) ^ 16 = 340282366920938463463374607431768211456 := by decide
  omega
theorem tagK_val (key : List UInt8) : valL (tagK key) = valD (rD key 16) := by
  have := rD_val_lt key
  unfold tagK
  rw [ldL_val _ (by rw [← rD_val]; omega), rD_val]
/-- a part's digits -/
def bD (P : List UInt8) : List Nat := (P.take 16).map (·.toNat) ++ [1]
theorem bD_val (P : List UInt8) : valD (bD P) = numL (blk17 P) := by
  unfold bD
  rw [valD_append, valD_map, blk17_num, List.length_map]; simp [valD]
theorem bD_lt (P : List UInt8) : ∀ x ∈ bD P, x < 256 := by
  intro x hx
  unfold bD at hx
  rcases List.mem_append.1 hx with h | h
  · obtain ⟨y, _, rfl⟩ := List.mem_map.1 h
    exact y.toNat_lt
  · rw [List.mem_singleton.1 h]; decide
/-- digits that a part's are added to, so many of them -/
structure HQ (H : Nat) (bl : List Nat) (i : Nat) (l : List Nat) : Prop where
  len : l.length = 17
  val : valD l = H + valD (bl.take i)
  new : ∀ j x, i ≤ j → l[j]? = some x → x < 256
  le : ∀ x ∈ l, x ≤ 511
theorem HQ_zero (H : Nat) (hH : H < pP) (bl : List Nat) : HQ H bl 0 (digs H 17) := by
  refine ⟨digs_len _ _, ?_, fun j x _ h => digs_lt _ _ _ (List.mem_of_getElem? h), fun x hx => by have := digs_lt _ _ _ hx; omega⟩
  rw [valD_digs, Nat.mod_eq_of_lt]
  · simp [valD]
  · have e : (256 : Nat) ^ 17 = 87112285931760246646623899502532662132736 := by decide
    unfold pP at hH; omega
theorem HQ.step {H i x y : Nat} {bl l : List Nat} (h : HQ H bl i l) (hx : l[i]? = some x) (hy : bl[i]? = some y) (hb : y < 256) : HQ H bl (i + 1) (l.set i (x + y)) := by
  have h1 := h.new i x (Nat.le_refl _) hx
  refine ⟨by rw [List.length_set]; exact h.len, ?_, fun j z hj hz => ?_, fun z hz => ?_⟩
  · rw [valD_set _ _ _ _ hx, h.val, valD_take_succ _ _ _ hy]; omega
  · rw [List.getElem?_set_ne (by omega)] at hz; exact h.new j z (by omega) hz
  · rcases List.mem_or_eq_of_mem_set hz with hz | rfl
    · exact h.le z hz
    · omega
theorem PR.row {v s i j a x y : Nat} {l r : List Nat} (h : PR (v + 256 ^ i * (x * valD (r.take j))) s l) (ha : l[i + j]? = some a) (hy : r[j]? = some y) (hx : x ≤ 511) (hyl : y ≤ 255) :
    PR (v + 256 ^ i * (x * valD (r.take (j + 1)))) (s + 1) (l.set (i + j) (a + x * y)) := by
  have h2 := h.step ha hx hyl
  have e : v + 256 ^ i * (x * valD (r.take j)) + 256 ^ (i + j) * (x * y) = v + 256 ^ i * (x * valD (r.take (j + 1))) := by
    rw [valD_take_succ _ _ _ hy, Nat.pow_add, Nat.mul_add, Nat.mul_add, Nat.add_assoc]
    congr 2
    rw [Nat.mul_assoc]
    congr 1
    rw [Nat.mul_left_comm]
  rw [e] at h2
  exact h2
/-- digits with the key's second half added, so many of them -/
def sK (V : Nat) (ks : List UInt8) (i : Nat) : List Nat := (List.range 17).map fun j => if j < i then V / 256 ^ j % 256 + (ks.getD j 0).toNat else V / 256 ^ j % 256
theorem sK_len (V : Nat) (ks : List UInt8) (i : Nat) : (sK V ks i).length = 17 := by simp [sK]
theorem sK_zero (V : Nat) (ks : List UInt8) : sK V ks 0 = digs V 17 := by simp [sK, digs]
theorem sK_get (V : Nat) (ks : List UInt8) (i : Nat) (hi : i < 17) : (sK V ks i)[i]? = some (V / 256 ^ i % 256) := by
  unfold sK; rw [List.getElem?_map, List.getElem?_range hi]; simp
theorem sK_set (V : Nat) (ks : List UInt8) (i : Nat) (hi : i < 17) : (sK V ks i).set i (V / 256 ^ i % 256 + (ks.getD i 0).toNat) = sK V ks (i + 1) := by
  apply List.ext_getElem?
  intro j
  rcases Nat.lt_or_ge j 17 with hj | hj
  · by_cases h1 : j = i
    · subst h1
      rw [List.getElem?_set_self (by rw [sK_len]; omega)]
      unfold sK
      rw [List.getElem?_map, List.getElem?_range hj]; simp
    · rw [List.getElem?_set_ne (fun h2 => h1 h2.symm)]
      unfold sK
      rw [List.getElem?_map, List.getElem?_map, List.getElem?_range hj]
      simp only [Option.map_some, Option.some.injEq]
      by_cases h2 : j < i
      · rw [if_pos h2, if_pos (by omega)]
      · rw [if_neg h2, if_neg (by omega)]
  · rw [List.getElem?_eq_none (by rw [List.length_set, sK_len]; omega), List.getElem?_eq_none (by rw [sK_len]; omega)]
theorem sK_le (V : Nat) (ks : List UInt8) (i : Nat) : ∀ x ∈ sK V ks i, x ≤ 255 * 1099511627776 := by
  intro x hx
  obtain ⟨j, _, rfl⟩ := List.mem_map.1 hx
  have := (ks.getD j 0).toNat_lt
  split <;> omega
theorem sK_tout (V : Nat) (ks : List UInt8) : (digs (valD (sK V ks 16)) 16).map UInt8.ofNat = tout V ks 16 := by
  rw [← carO_all]
  refine tout_carO V ks _ fun j hj => ?_
  unfold sK
  rw [List.getD_eq_getElem?_getD, List.getElem?_map, List.getElem?_range (by omega)]; simp [hj]
theorem digs_zero17 : List.replicate 17 (Value.int .i64 0) = (digs 0 17).map IV := by simp [digs, List.range_succ, IV, List.replicate]
structure EQ1 (a b : Nat) : Prop where
  h : a = b
structure RQ (key : List UInt8) (R : Nat) : Prop where
  h : valD (rD key 16) = R
  k : valL (tagK key) = R
/-- between two parts -/
structure TQ (w W1 wr : World) (gh0 R : Nat) (p : List UInt8) (k : Nat) (a : Option Addr) (c : Nat) (b : Option Addr) (m e : Nat) : Prop where
  own : OW wr w.heap.size 3 1 a 17 c ((digs (polyN R p k) 17).map IV)
  rest : BS w b m e (p.drop (16 * k))
  gr : W1.grownBy wr (some gh0)
  at_ : ∀ ad, a = some ad → ad.block = gh0 ∨ W1.heap.size ≤ ad.block
  few : 16 * k < p.length + 16
set_option maxHeartbeats 8000000 in
theorem rtag_any (w : World) {a b : Option Addr} {n c m e : Nat} {key p d : List UInt8} (hk : BS w a n c key) (hp : BS w b m e p) (hn : 32 ≤ n) (hm : m ≤ 1099511627776) (hD : TG key p d) :
    Calls Tryd.prog 78 #[.slice a n c, .slice b m e] w fun x w' => ∃ a' c', x = .returned (.slice a' 16 c') ∧ OW w' w.heap.size 5 1 a' 16 c' (d.map B) ∧ Below w.heap.size w w' := by
  have hkl := BS.len hk
  have hpl := BS.len hp
  have hkc := RS.le hk
  have hkm := RS.max hk
  have hpm := RS.max hp
  have hpc := RS.le hp
  unfold maxLen at hkm hpm
  obtain ⟨ba, oa, rfl, hka⟩ := hk.at_ (by omega)
  have lba : ba < w.heap.size := RS.block_lt hk rfl (by omega) (by omega)
  have HKA := Lib.hid hka
  have HK := Lib.hid hk
  have HP := Lib.hid hp
  clear hka hk hp
  go_enter Tryd.func78, Tryd.ntmps78
  go_upto_region 3 with (refine LB_slice_h tB HK.out 16 _ _ rfl rfl _ _ rfl rfl rfl (by omega) ?_; intro hk16)
  clear hk16
  go_loopw [5, 27] (fun s5 s27 wr => ∃ (i : Nat) (a : Option Addr) (c : Nat), i ≤ 16 ∧ s27 = .int .i64 (i : Int) ∧ s5 = .slice a i c ∧ OW wr w.heap.size 3 1 a i c ((rD key i).map IV) ∧ Below w.heap.size w wr) (fun _ s27 _ => 16 - (intOf s27).toNat)
  case atStart => exact ⟨0, none, 0, by omega, rfl, rfl, OW_nil _ _ _ _, Below.refl _ _⟩
  case round =>
    obtain ⟨i, a, c', hi, rfl, rfl, ho, hb⟩ := hrel
    by_cases hlt : i < 16
    · have hsz := hb.size
      obtain ⟨x, ex⟩ : ∃ x, key[i]? = some x := ⟨_, List.getElem?_eq_getElem (by omega)⟩
      have gx : key.getD i 0 = x := by rw [List.getD_eq_getElem?_getD, ex]; rfl
      have q0 : wr.cell? ⟨ba, oa + i, none⟩ = some (.int .u8 (x.toNat : Int)) := (hb.cell (p := ⟨ba, oa + i, none⟩) lba).trans (HKA.out i x ex)
      have hrd := rD_succ key i
      obtain ⟨v, hv⟩ : ∃ v, rc key i = v := ⟨_, rfl⟩
      rw [hv] at hrd
      unfold rc at hv
      rw [gx] at hv
      have hxl := x.toNat_lt
      obtain ⟨z, hz⟩ : ∃ z, x.toNat = z := ⟨_, rfl⟩
      rw [hz] at hv q0 hxl
      have Hrd := EN'.mk hrd
      have HO := Lib.hid ho
      have HB := Lib.hid hb
      have hlen := ho.rs.le
      clear ex gx hrd ho hb hz
      have hj16 : i = 0 ∨ i = 1 ∨ i = 2 ∨ i = 3 ∨ i = 4 ∨ i = 5 ∨ i = 6 ∨ i = 7 ∨ i = 8 ∨ i = 9 ∨ i = 10 ∨ i = 11 ∨ i = 12 ∨ i = 13 ∨ i = 14 ∨ i = 15 := by omega
      rcases hj16 with rfl | rfl | rfl | rfl | rfl | rfl | rfl | rfl | rfl | rfl | rfl | rfl | rfl | rfl | rfl | rfl
      · have hvi : v = z := by simpa using hv.symm
        clear hv
        rw [show ((0 : Nat) : Int) = 0 from rfl]
        try rw [Nat.add_zero] at q0
        go_wp2_with (at_builtin; refine L_append tI (OW.alloc HO.out _) (RS_one _ _ _ rfl) _ _ rfl rfl rfl rfl (by omega) (by unfold maxLen; omega) (by simp; omega) ?_; intro a5 c5 w5 o5 g5)
        have B5 := Lib.hid ((HB.out.alloc hsz _).grown g5 (by simp; omega) (row_le (fun ad ha => (HO.out.base_le ha).1) (Nat.le_refl _)))
        have O5 := Lib.hid (show OW w5 w.heap.size 3 1 a5 (0 + 1) c5 ((rD key (0 + 1)).map IV) by
          rw [Hrd.h, List.map_append, hvi, List.map_cons, List.map_nil, show IV (z) = .int .i64 ((z : Int)) by unfold IV; congr 1 <;> omega]
          exact o5)
        clear o5 g5
        go_roundw
        case rel => exact ⟨0 + 1, a5, c5, by omega, rfl, rfl, O5.out, B5.out⟩
        case measure => simp [intOf]
      · have hvi : v = z := by simpa using hv.symm
        clear hv
        rw [show ((1 : Nat) : Int) = 1 from rfl]
        try rw [Nat.add_zero] at q0
        go_wp2_with (at_builtin; refine L_append tI (OW.alloc HO.out _) (RS_one _ _ _ rfl) _ _ rfl rfl rfl rfl (by omega) (by unfold maxLen; omega) (by simp; omega) ?_; intro a5 c5 w5 o5 g5)
        have B5 := Lib.hid ((HB.out.alloc hsz _).grown g5 (by simp; omega) (row_le (fun ad ha => (HO.out.base_le ha).1) (Nat.le_refl _)))
        have O5 := Lib.hid (show OW w5 w.heap.size 3 1 a5 (1 + 1) c5 ((rD key (1 + 1)).map IV) by
          rw [Hrd.h, List.map_append, hvi, List.map_cons, List.map_nil, show IV (z) = .int .i64 ((z : Int)) by unfold IV; congr 1 <;> omega]
          exact o5)
        clear o5 g5
        go_roundw
        case rel => exact ⟨1 + 1, a5, c5, by omega, rfl, rfl, O5.out, B5.out⟩
        case measure => simp [intOf]
      · have hvi : v = z := by simpa using hv.symm
        clear hv
        rw [show ((2 : Nat) : Int) = 2 from rfl]
        try rw [Nat.add_zero] at q0
        go_wp2_with (at_builtin; refine L_append tI (OW.alloc HO.out _) (RS_one _ _ _ rfl) _ _ rfl rfl rfl rfl (by omega) (by unfold maxLen; omega) (by simp; omega) ?_; intro a5 c5 w5 o5 g5)
        have B5 := Lib.hid ((HB.out.alloc hsz _).grown g5 (by simp; omega) (row_le (fun ad ha => (HO.out.base_le ha).1) (Nat.le_refl _)))
        have O5 := Lib.hid (show OW w5 w.heap.size 3 1 a5 (2 + 1) c5 ((rD key (2 + 1)).map IV) by
          rw [Hrd.h, List.map_append, hvi, List.map_cons, List.map_nil, show IV (z) = .int .i64 ((z : Int)) by unfold IV; congr 1 <;> omega]
          exact o5)
        clear o5 g5
        go_roundw
        case rel => exact ⟨2 + 1, a5, c5, by omega, rfl, rfl, O5.out, B5.out⟩
        case measure => simp [intOf]
      · have hvi : v = z % 16 := by simpa using hv.symm
        clear hv
        rw [show ((3 : Nat) : Int) = 3 from rfl]
        try rw [Nat.add_zero] at q0
        go_wp2_with (at_builtin; refine L_append tI (OW.alloc HO.out _) (RS_one _ _ _ rfl) _ _ rfl rfl rfl rfl (by omega) (by unfold maxLen; omega) (by simp; omega) ?_; intro a5 c5 w5 o5 g5)
        have B5 := Lib.hid ((HB.out.alloc hsz _).grown g5 (by simp; omega) (row_le (fun ad ha => (HO.out.base_le ha).1) (Nat.le_refl _)))
        have O5 := Lib.hid (show OW w5 w.heap.size 3 1 a5 (3 + 1) c5 ((rD key (3 + 1)).map IV) by
          rw [Hrd.h, List.map_append, hvi, List.map_cons, List.map_nil, show IV (z % 16) = .int .i64 ((z : Int) % 16) by unfold IV; congr 1 <;> omega]
          exact o5)
        clear o5 g5
        go_roundw
        case rel => exact ⟨3 + 1, a5, c5, by omega, rfl, rfl, O5.out, B5.out⟩
        case measure => simp [intOf]
      · have hvi : v = z - z % 4 := by simpa using hv.symm
        clear hv
        rw [show ((4 : Nat) : Int) = 4 from rfl]
        try rw [Nat.add_zero] at q0
        go_wp2_with (at_builtin; refine L_append tI (OW.alloc HO.out _) (RS_one _ _ _ rfl) _ _ rfl rfl rfl rfl (by omega) (by unfold maxLen; omega) (by simp; omega) ?_; intro a5 c5 w5 o5 g5)
        have B5 := Lib.hid ((HB.out.alloc hsz _).grown g5 (by simp; omega) (row_le (fun ad ha => (HO.out.base_le ha).1) (Nat.le_refl _)))
        have O5 := Lib.hid (show OW w5 w.heap.size 3 1 a5 (4 + 1) c5 ((rD key (4 + 1)).map IV) by
          rw [Hrd.h, List.map_append, hvi, List.map_cons, List.map_nil, show IV (z - z % 4) = .int .i64 ((z : Int) - (z : Int) % 4) by unfold IV; congr 1 <;> omega]
          exact o5)
        clear o5 g5
        go_roundw
        case rel => exact ⟨4 + 1, a5, c5, by omega, rfl, rfl, O5.out, B5.out⟩
        case measure => simp [intOf]
      · have hvi : v = z := by simpa using hv.symm
        clear hv
        rw [show ((5 : Nat) : Int) = 5 from rfl]
        try rw [Nat.add_zero] at q0
        go_wp2_with (at_builtin; refine L_append tI (OW.alloc HO.out _) (RS_one _ _ _ rfl) _ _ rfl rfl rfl rfl (by omega) (by unfold maxLen; omega) (by simp; omega) ?_; intro a5 c5 w5 o5 g5)
        have B5 := Lib.hid ((HB.out.alloc hsz _).grown g5 (by simp; omega) (row_le (fun ad ha => (HO.out.base_le ha).1) (Nat.le_refl _)))
        have O5 := Lib.hid (show OW w5 w.heap.size 3 1 a5 (5 + 1) c5 ((rD key (5 + 1)).map IV) by
          rw [Hrd.h, List.map_append, hvi, List.map_cons, List.map_nil, show IV (z) = .int .i64 ((z : Int)) by unfold IV; congr 1 <;> omega]
          exact o5)
        clear o5 g5
        go_roundw
        case rel => exact ⟨5 + 1, a5, c5, by omega, rfl, rfl, O5.out, B5.out⟩
        case measure => simp [intOf]
      · have hvi : v = z := by simpa using hv.symm
        clear hv
        rw [show ((6 : Nat) : Int) = 6 from rfl]
        try rw [Nat.add_zero] at q0
        go_wp2_with (at_builtin; refine L_append tI (OW.alloc HO.out _) (RS_one _ _ _ rfl) _ _ rfl rfl rfl rfl (by omega) (by unfold maxLen; omega) (by simp; omega) ?_; intro a5 c5 w5 o5 g5)
        have B5 := Lib.hid ((HB.out.alloc hsz _).grown g5 (by simp; omega) (row_le (fun ad ha => (HO.out.base_le ha).1) (Nat.le_refl _)))
        have O5 := Lib.hid (show OW w5 w.heap.size 3 1 a5 (6 + 1) c5 ((rD key (6 + 1)).map IV) by
          rw [Hrd.h, List.map_append, hvi, List.map_cons, List.map_nil, show IV (z) = .int .i64 ((z : Int)) by unfold IV; congr 1 <;> omega]
          exact o5)
        clear o5 g5
        go_roundw
        case rel => exact ⟨6 + 1, a5, c5, by omega, rfl, rfl, O5.out, B5.out⟩
        case measure => simp [intOf]
      · have hvi : v = z % 16 := by simpa using hv.symm
        clear hv
        rw [show ((7 : Nat) : Int) = 7 from rfl]
        try rw [Nat.add_zero] at q0
        go_wp2_with (at_builtin; refine L_append tI (OW.alloc HO.out _) (RS_one _ _ _ rfl) _ _ rfl rfl rfl rfl (by omega) (by unfold maxLen; omega) (by simp; omega) ?_; intro a5 c5 w5 o5 g5)
        have B5 := Lib.hid ((HB.out.alloc hsz _).grown g5 (by simp; omega) (row_le (fun ad ha => (HO.out.base_le ha).1) (Nat.le_refl _)))
        have O5 := Lib.hid (show OW w5 w.heap.size 3 1 a5 (7 + 1) c5 ((rD key (7 + 1)).map IV) by
          rw [Hrd.h, List.map_append, hvi, List.map_cons, List.map_nil, show IV (z % 16) = .int .i64 ((z : Int) % 16) by unfold IV; congr 1 <;> omega]
          exact o5)
        clear o5 g5
        go_roundw
        case rel => exact ⟨7 + 1, a5, c5, by omega, rfl, rfl, O5.out, B5.out⟩
        case measure => simp [intOf]
      · have hvi : v = z - z % 4 := by simpa using hv.symm
        clear hv
        rw [show ((8 : Nat) : Int) = 8 from rfl]
        try rw [Nat.add_zero] at q0
        go_wp2_with (at_builtin; refine L_append tI (OW.alloc HO.out _) (RS_one _ _ _ rfl) _ _ rfl rfl rfl rfl (by omega) (by unfold maxLen; omega) (by simp; omega) ?_; intro a5 c5 w5 o5 g5)
        have B5 := Lib.hid ((HB.out.alloc hsz _).grown g5 (by simp; omega) (row_le (fun ad ha => (HO.out.base_le ha).1) (Nat.le_refl _)))
        have O5 := Lib.hid (show OW w5 w.heap.size 3 1 a5 (8 + 1) c5 ((rD key (8 + 1)).map IV) by
          rw [Hrd.h, List.map_append, hvi, List.map_cons, List.map_nil, show IV (z - z % 4) = .int .i64 ((z : Int) - (z : Int) % 4) by unfold IV; congr 1 <;> omega]
          exact o5)
        clear o5 g5
        go_roundw
        case rel => exact ⟨8 + 1, a5, c5, by omega, rfl, rfl, O5.out, B5.out⟩
        case measure => simp [intOf]
      · have hvi : v = z := by simpa using hv.symm
        clear hv
        rw [show ((9 : Nat) : Int) = 9 from rfl]
        try rw [Nat.add_zero] at q0
        go_wp2_with (at_builtin; refine L_append tI (OW.alloc HO.out _) (RS_one _ _ _ rfl) _ _ rfl rfl rfl rfl (by omega) (by unfold maxLen; omega) (by simp; omega) ?_; intro a5 c5 w5 o5 g5)
        have B5 := Lib.hid ((HB.out.alloc hsz _).grown g5 (by simp; omega) (row_le (fun ad ha => (HO.out.base_le ha).1) (Nat.le_refl _)))
        have O5 := Lib.hid (show OW w5 w.heap.size 3 1 a5 (9 + 1) c5 ((rD key (9 + 1)).map IV) by
          rw [Hrd.h, List.map_append, hvi, List.map_cons, List.map_nil, show IV (z) = .int .i64 ((z : Int)) by unfold IV; congr 1 <;> omega]
          exact o5)
        clear o5 g5
        go_roundw
        case rel => exact ⟨9 + 1, a5, c5, by omega, rfl, rfl, O5.out, B5.out⟩
        case measure => simp [intOf]
      · have hvi : v = z := by simpa using hv.symm
        clear hv
        rw [show ((10 : Nat) : Int) = 10 from rfl]
        try rw [Nat.add_zero] at q0
        go_wp2_with (at_builtin; refine L_append tI (OW.alloc HO.out _) (RS_one _ _ _ rfl) _ _ rfl rfl rfl rfl (by omega) (by unfold maxLen; omega) (by simp; omega) ?_; intro a5 c5 w5 o5 g5)
        have B5 := Lib.hid ((HB.out.alloc hsz _).grown g5 (by simp; omega) (row_le (fun ad ha => (HO.out.base_le ha).1) (Nat.le_refl _)))
        have O5 := Lib.hid (show OW w5 w.heap.size 3 1 a5 (10 + 1) c5 ((rD key (10 + 1)).map IV) by
          rw [Hrd.h, List.map_append, hvi, List.map_cons, List.map_nil, show IV (z) = .int .i64 ((z : Int)) by unfold IV; congr 1 <;> omega]
          exact o5)
        clear o5 g5
        go_roundw
        case rel => exact ⟨10 + 1, a5, c5, by omega, rfl, rfl, O5.out, B5.out⟩
        case measure => simp [intOf]
      · have hvi : v = z % 16 := by simpa using hv.symm
        clear hv
        rw [show ((11 : Nat) : Int) = 11 from rfl]
        try rw [Nat.add_zero] at q0
        go_wp2_with (at_builtin; refine L_append tI (OW.alloc HO.out _) (RS_one _ _ _ rfl) _ _ rfl rfl rfl rfl (by omega) (by unfold maxLen; omega) (by simp; omega) ?_; intro a5 c5 w5 o5 g5)
        have B5 := Lib.hid ((HB.out.alloc hsz _).grown g5 (by simp; omega) (row_le (fun ad ha => (HO.out.base_le ha).1) (Nat.le_refl _)))
        have O5 := Lib.hid (show OW w5 w.heap.size 3 1 a5 (11 + 1) c5 ((rD key (11 + 1)).map IV) by
          rw [Hrd.h, List.map_append, hvi, List.map_cons, List.map_nil, show IV (z % 16) = .int .i64 ((z : Int) % 16) by unfold IV; congr 1 <;> omega]
          exact o5)
        clear o5 g5
        go_roundw
        case rel => exact ⟨11 + 1, a5, c5, by omega, rfl, rfl, O5.out, B5.out⟩
        case measure => simp [intOf]
      · have hvi : v = z - z % 4 := by simpa using hv.symm
        clear hv
        rw [show ((12 : Nat) : Int) = 12 from rfl]
        try rw [Nat.add_zero] at q0
        go_wp2_with (at_builtin; refine L_append tI (OW.alloc HO.out _) (RS_one _ _ _ rfl) _ _ rfl rfl rfl rfl (by omega) (by unfold maxLen; omega) (by simp; omega) ?_; intro a5 c5 w5 o5 g5)
        have B5 := Lib.hid ((HB.out.alloc hsz _).grown g5 (by simp; omega) (row_le (fun ad ha => (HO.out.base_le ha).1) (Nat.le_refl _)))
        have O5 := Lib.hid (show OW w5 w.heap.size 3 1 a5 (12 + 1) c5 ((rD key (12 + 1)).map IV) by
          rw [Hrd.h, List.map_append, hvi, List.map_cons, List.map_nil, show IV (z - z % 4) = .int .i64 ((z : Int) - (z : Int) % 4) by unfold IV; congr 1 <;> omega]
          exact o5)
        clear o5 g5
        go_roundw
        case rel => exact ⟨12 + 1, a5, c5, by omega, rfl, rfl, O5.out, B5.out⟩
        case measure => simp [intOf]
      · have hvi : v = z := by simpa using hv.symm
        clear hv
        rw [show ((13 : Nat) : Int) = 13 from rfl]
        try rw [Nat.add_zero] at q0
        go_wp2_with (at_builtin; refine L_append tI (OW.alloc HO.out _) (RS_one _ _ _ rfl) _ _ rfl rfl rfl rfl (by omega) (by unfold maxLen; omega) (by simp; omega) ?_; intro a5 c5 w5 o5 g5)
        have B5 := Lib.hid ((HB.out.alloc hsz _).grown g5 (by simp; omega) (row_le (fun ad ha => (HO.out.base_le ha).1) (Nat.le_refl _)))
        have O5 := Lib.hid (show OW w5 w.heap.size 3 1 a5 (13 + 1) c5 ((rD key (13 + 1)).map IV) by
          rw [Hrd.h, List.map_append, hvi, List.map_cons, List.map_nil, show IV (z) = .int .i64 ((z : Int)) by unfold IV; congr 1 <;> omega]
          exact o5)
        clear o5 g5
        go_roundw
        case rel => exact ⟨13 + 1, a5, c5, by omega, rfl, rfl, O5.out, B5.out⟩
        case measure => simp [intOf]
      · have hvi : v = z := by simpa using hv.symm
        clear hv
        rw [show ((14 : Nat) : Int) = 14 from rfl]
        try rw [Nat.add_zero] at q0
        go_wp2_with (at_builtin; refine L_append tI (OW.alloc HO.out _) (RS_one _ _ _ rfl) _ _ rfl rfl rfl rfl (by omega) (by unfold maxLen; omega) (by simp; omega) ?_; intro a5 c5 w5 o5 g5)
        have B5 := Lib.hid ((HB.out.alloc hsz _).grown g5 (by simp; omega) (row_le (fun ad ha => (HO.out.base_le ha).1) (Nat.le_refl _)))
        have O5 := Lib.hid (show OW w5 w.heap.size 3 1 a5 (14 + 1) c5 ((rD key (14 + 1)).map IV) by
          rw [Hrd.h, List.map_append, hvi, List.map_cons, List.map_nil, show IV (z) = .int .i64 ((z : Int)) by unfold IV; congr 1 <;> omega]
          exact o5)
        clear o5 g5
        go_roundw
        case rel => exact ⟨14 + 1, a5, c5, by omega, rfl, rfl, O5.out, B5.out⟩
        case measure => simp [intOf]
      · have hvi : v = z % 16 := by simpa using hv.symm
        clear hv
        rw [show ((15 : Nat) : Int) = 15 from rfl]
        try rw [Nat.add_zero] at q0
        go_wp2_with (at_builtin; refine L_append tI (OW.alloc HO.out _) (RS_one _ _ _ rfl) _ _ rfl rfl rfl rfl (by omega) (by unfold maxLen; omega) (by simp; omega) ?_; intro a5 c5 w5 o5 g5)
        have B5 := Lib.hid ((HB.out.alloc hsz _).grown g5 (by simp; omega) (row_le (fun ad ha => (HO.out.base_le ha).1) (Nat.le_refl _)))
        have O5 := Lib.hid (show OW w5 w.heap.size 3 1 a5 (15 + 1) c5 ((rD key (15 + 1)).map IV) by
          rw [Hrd.h, List.map_append, hvi, List.map_cons, List.map_nil, show IV (z % 16) = .int .i64 ((z : Int) % 16) by unfold IV; congr 1 <;> omega]
          exact o5)
        clear o5 g5
        go_roundw
        case rel => exact ⟨15 + 1, a5, c5, by omega, rfl, rfl, O5.out, B5.out⟩
        case measure => simp [intOf]
    · obtain rfl : i = 16 := by omega
      rw [show ((16 : Nat) : Int) = 16 from rfl]
      obtain ⟨gr, rfl, lgr1, lgr2⟩ : ∃ g, a = some ⟨g, 0, none⟩ ∧ w.heap.size ≤ g ∧ g < wr.heap.size := by
        rcases ho.shape with ⟨_, h, _⟩ | ⟨g, cur, h1, h2, h3, _⟩
        · omega
        · exact ⟨g, h1, h2, h3⟩
      have HRow := Lib.hid ho
      have HB0 := Lib.hid hb
      clear ho hb
      generalize wr = W0 at *
      go_upto_region 18 with (refine L_make tI W0.heap.size 17 rfl rfl _ _ rfl rfl _ _ _ _ rfl rfl (by omega) (by omega) (by omega) (by unfold maxLen; omega) (Nat.le_refl _) ?_; intro W1 o1 g1)
      have b1 := below_none (Below.refl _ W0) g1 (Nat.le_refl _)
      have hb1 := HB0.out.trans (b1.mono HB0.out.size)
      have o1 := o1.mono HB0.out.size
      have hgw := HB0.out.size
      obtain ⟨gh0, hgh0⟩ : ∃ gh0, W0.heap.size = gh0 := ⟨_, rfl⟩
      rw [hgh0] at o1 hgw lgr2 ⊢
      have HB1 := Lib.hid hb1
      have HR1 := Lib.hid (HRow.out.below b1 (Nat.le_refl _))
      obtain ⟨R, hR⟩ : ∃ R, valD (rD key 16) = R := ⟨_, rfl⟩
      have hRl := rD_val_lt key
      rw [hR] at hRl
      have hRk : valL (tagK key) = R := by rw [tagK_val, hR]
      have HRQ : RQ key R := ⟨hR, hRk⟩
      have hq0 : TQ w W1 W1 gh0 R p 0 (some ⟨gh0, 0, none⟩) 17 b m e := ⟨digs_zero17 ▸ o1, HP.out, World.grownBy.refl W1 _, fun ad ha => by cases ha; exact .inl rfl, by omega⟩
      have HQ0 := Lib.hid hq0
      have lgr3 : gr < gh0 := by omega
      have lgh0 : w.heap.size ≤ gh0 := by omega
      clear o1 g1 b1 hb1 hR hRk hq0 HRow hgh0
      go_loopw [1, 8] (fun s1 s8 wr => ∃ (k : Nat) (a : Option Addr) (c : Nat) (b : Option Addr) (m e : Nat), s8 = .slice a 17 c ∧ s1 = .slice b m e ∧ TQ w W1 wr gh0 R p k a c b m e) (fun s1 _ _ => lenV s1)
      case atStart => exact ⟨0, _, _, _, _, _, rfl, rfl, HQ0.out⟩
      case round =>
        obtain ⟨k, a, c, b', m', e', rfl, rfl, hq⟩ := hrel
        clear HQ0
        obtain ⟨P, hP⟩ : ∃ P, p.drop (16 * k) = P := ⟨_, rfl⟩
        have hrw := hq.rest
        rw [hP] at hrw
        have HRW := Lib.hid hrw
        have hbw : Below w.heap.size w wr := HB1.out.grown hq.gr HB1.out.size (fun k hk => by cases hk; exact lgh0)
        have hrest : BS wr b' m' e' P := RS.below hrw hbw (Nat.le_refl _)
        have HBW := Lib.hid hbw
        clear hrw hbw
        have hPl := BS.len hrest
        have hmc := RS.le hrest
        have hmm := RS.max hrest
        unfold maxLen at hmm
        obtain ⟨gh, rfl⟩ : ∃ g, a = some ⟨g, 0, none⟩ := by
          rcases hq.own.shape with ⟨_, h, _⟩ | ⟨g, cur, h1, _⟩
          · omega
          · exact ⟨g, h1⟩
        have lgh := (hq.own.base_le rfl).2
        have hgh := hq.at_ _ rfl
        have hghb := (hq.own.base_le rfl).1
        have Hgh := Lib.hid hgh
        clear hgh
        by_cases hm0 : 0 < m'
        · obtain ⟨t, ht⟩ : ∃ t, min m' 16 = t := ⟨_, rfl⟩
          have hmin : (if (16 : Int) < (m' : Int) then (16 : Int) else (m' : Int)) = (t : Int) := by split <;> omega
          have hPt : P.take t = P.take 16 := by
            rcases Nat.lt_or_ge m' 16 with h | h
            · rw [List.take_of_length_le (by omega), List.take_of_length_le (by omega)]
            · rw [show t = 16 by omega]
          have htm : t ≤ m' := by omega
          have ht16 : t ≤ 16 := by omega
          have Htx := Lib.hid (show t = 16 ∨ (t = m' ∧ m' ≤ 16) by omega)
          have HQQ := Lib.hid hq
          have HRest := Lib.hid hrest
          have HPt := Lib.hid hPt
          have HPe := Lib.hid hP
          clear ht hq hrest hPt hP
          generalize wr = W2 at *
          have Hmin := Lib.hid hmin
          clear hmin
          go_upto_region 20 with (fail)
          rw [Hmin.out]
          go_upto_region 22 with (refine LB_slice_h tB HRest.out t _ _ rfl rfl _ _ rfl rfl rfl (by omega) ?_; intro hpt)
          clear hpt Hmin
          obtain ⟨bb, oo, rfl, hcell⟩ := HRest.out.at_ hm0
          have HC := Lib.hid hcell
          have lbb : bb < W2.heap.size := RS.block_lt HRest.out rfl hm0 (by omega)
          clear hcell
          go_loopw [10, 65] (fun s10 s65 wr => ∃ (i : Nat) (a : Option Addr) (c : Nat), i ≤ t ∧ s65 = .int .i64 (i : Int) ∧ s10 = .slice a i c ∧ OW wr W2.heap.size 3 1 a i c (((P.take i).map (·.toNat)).map IV) ∧ Below W2.heap.size W2 wr) (fun _ s65 _ => t - (intOf s65).toNat)
          case atStart => exact ⟨0, none, 0, by omega, rfl, rfl, OW_nil _ _ _ _, Below.refl _ _⟩
          case round =>
            obtain ⟨i, a4, c4, hi, rfl, rfl, ho, hb⟩ := hrel
            have hsz := hb.size
            have hlen := ho.rs.le
            by_cases hlt : i < t
            · obtain ⟨x, ex⟩ : ∃ x, P[i]? = some x := ⟨_, List.getElem?_eq_getElem (by omega)⟩
              have q0 : wr.cell? ⟨bb, oo + i, none⟩ = some (.int .u8 (x.toNat : Int)) := (hb.cell (p := ⟨bb, oo + i, none⟩) lbb).trans (HC.out i x ex)
              have hnx : EN' ((P.take (i + 1)).map (·.toNat)) ((P.take i).map (·.toNat) ++ [x.toNat]) := ⟨by rw [List.take_add_one, ex]; simp⟩
              have hxl := x.toNat_lt
              obtain ⟨z, hz⟩ : ∃ z, x.toNat = z := ⟨_, rfl⟩
              rw [hz] at hnx q0 hxl
              have HO := Lib.hid ho
              have HB := Lib.hid hb
              clear ho hb ex hz
              go_wp2_with (at_builtin; refine L_append tI (OW.alloc HO.out _) (RS_one _ _ _ rfl) _ _ rfl rfl rfl rfl (by omega) (by unfold maxLen; omega) (by simp; omega) ?_; intro a5 c5 w5 o5 g5)
              have B5 := Lib.hid ((HB.out.alloc hsz _).grown g5 (by simp; omega) (row_le (fun ad ha => (HO.out.base_le ha).1) (Nat.le_refl _)))
              have O5 := Lib.hid (show OW w5 W2.heap.size 3 1 a5 (i + 1) c5 (((P.take (i + 1)).map (·.toNat)).map IV) by rw [hnx.h, List.map_append]; exact o5)
              clear o5 g5
              go_roundw
              case rel => exact ⟨i + 1, a5, c5, by omega, by go_num, rfl, O5.out, B5.out⟩
              case measure => simp [intOf]; omega
            · obtain rfl : i = t := by omega
              have HO := Lib.hid ho
              have HB := Lib.hid hb
              obtain ⟨N, hN⟩ : ∃ N, i + 1 = N := ⟨_, rfl⟩
              have hNi : (i : Int) + 1 = (N : Int) := by omega
              clear ho hb
              go_upto_region 28 with (at_builtin; refine L_append tI (OW.alloc HO.out _) (RS_one _ _ _ rfl) _ _ rfl rfl rfl rfl (by omega) (by unfold maxLen; omega) (by simp; omega) ?_; intro a5 c5 w5 o5 g5)
              have hb5 := (HB.out.alloc hsz _).grown g5 (by simp; omega) (row_le (fun ad ha => (HO.out.base_le ha).1) (Nat.le_refl _))
              have o5' : OW w5 W2.heap.size 3 1 a5 (i + 1) c5 ((bD P).map IV) := by
                unfold bD
                rw [← HPt.out, List.map_append]; exact o5
              clear o5 g5
              have hNl : (bD P).length = i + 1 := IS.len o5'.rs
              obtain ⟨gb, rfl, lgb1, lgb2⟩ : ∃ g, a5 = some ⟨g, 0, none⟩ ∧ W2.heap.size ≤ g ∧ g < w5.heap.size := by
                rcases o5'.shape with ⟨_, h, _⟩ | ⟨g, cur, h1, h2, h3, _⟩
                · omega
                · exact ⟨g, h1, h2, h3⟩
              obtain ⟨H, hH⟩ : ∃ H, polyN R p k = H := ⟨_, rfl⟩
              have hHl := polyN_lt R p k
              have hown := HQQ.out.own
              rw [hH] at hHl hown
              have how5 := hown.below hb5 (Nat.le_refl _)
              have hq4 := HQ_zero H hHl (bD P)
              have HHe := EQ1.mk hH
              have HHl := Lib.hid hHl
              have HO5 := Lib.hid o5'
              have HB5 := Lib.hid hb5
              have HW5 := Lib.hid how5
              have HQ4 := Lib.hid hq4
              have hsz5 := hb5.size
              have hN17 : N ≤ 17 := by omega
              rw [hN] at hNl HO5
              have HN := Lib.hid hN
              clear o5' hb5 hown how5 hq4 hHl hH hN HO HB hNi
              go_loopw [80] (fun s80 wr => ∃ (q : Nat) (l' : List Nat), q ≤ N ∧ s80 = .int .i64 (q : Int) ∧ OW wr w.heap.size 3 1 (some ⟨gh, 0, none⟩) 17 c (l'.map IV) ∧ HQ H (bD P) q l' ∧ w5.grownBy wr (some gh)) (fun s80 _ => N - (intOf s80).toNat)
              case atStart => exact ⟨0, _, by omega, rfl, HW5.out, HQ4.out, World.grownBy.refl w5 _⟩
              case round =>
                obtain ⟨q, l', hq, rfl, ho, hl, hg⟩ := hrel
                clear HW5 HQ4
                have hlc := ho.rs.le
                by_cases hlt : q < N
                · have hll := hl.len
                  obtain ⟨x, ex⟩ : ∃ x, l'[q]? = some x := ⟨_, List.getElem?_eq_getElem (by omega)⟩
                  obtain ⟨y, ey⟩ : ∃ y, (bD P)[q]? = some y := ⟨_, List.getElem?_eq_getElem (by omega)⟩
                  have ly := bD_lt P y (List.mem_of_getElem? ey)
                  have lx := hl.new q x (Nat.le_refl _) ex
                  have qb : wr.cell? ⟨gb, q, none⟩ = some (.int .i64 (y : Int)) := (World.cell?_of_block (a := ⟨gb, q, none⟩) (hg.block gb lgb2 (by simp; omega))).trans (HO5.out.cell q _ (iv_get ey))
                  have qx := ho.cell q _ (iv_get ex)
                  have fx := ho.frozen q
                  have H2 := Lib.hid (show OW (wr.setCell ⟨gh, q, none⟩ (.int .i64 ((x : Int) + (y : Int)))) w.heap.size 3 1 (some ⟨gh, 0, none⟩) 17 c ((l'.set q (x + y)).map IV) by
                    rw [List.map_set]
                    exact ho.setCell q (IV (x + y)) rfl)
                  have G2 := Lib.hid (show w5.grownBy (wr.setCell ⟨gh, q, none⟩ (.int .i64 ((x : Int) + (y : Int)))) (some gh) from grown_set hg q _)
                  have L2 := Lib.hid (hl.step ex ey ly)
                  clear ho hl hg ex ey
                  go_wp2
                  go_roundw
                  case rel => exact ⟨q + 1, _, by omega, by go_num, H2.out, L2.out, G2.out⟩
                  case measure => simp [intOf]; omega
                · have hqN : q = N := by omega
                  rw [hqN] at hl
                  have HqN := Lib.hid hqN
                  clear hqN
                  have HOW := Lib.hid ho
                  have HLQ := Lib.hid hl
                  have HG := Lib.hid hg
                  have lgh4 := (ho.base_le rfl).2
                  have hzg := hg.size
                  clear ho hl hg
                  generalize wr = W4 at *
                  go_upto_region 34 with (refine L_make tI W4.heap.size 40 rfl rfl _ _ rfl rfl _ _ _ _ rfl rfl (by omega) (by omega) (by omega) (by unfold maxLen; omega) (Nat.le_refl _) ?_; intro w6 o6 g6)
                  have b6 := below_none (Below.refl _ W4) g6 (Nat.le_refl _)
                  have o6' : OW w6 W4.heap.size 3 1 (some ⟨W4.heap.size, 0, none⟩) 40 40 ((List.replicate 40 0).map IV) := by rw [List.map_replicate]; exact o6
                  obtain ⟨gp, hgp⟩ : ∃ gp, W4.heap.size = gp := ⟨_, rfl⟩
                  rw [hgp] at o6' lgh4 hzg b6 ⊢
                  have O6 := Lib.hid o6'
                  have B6 := Lib.hid b6
                  have Hgp := Lib.hid hgp
                  clear o6 g6 b6 o6' hgp
                  have hR2 := (HR1.out.grown HQQ.out.gr (fun ad ha => by cases ha; simp; omega)).below HB5.out (Nat.le_refl _)
                  have lgrW : gr < W1.heap.size := (HR1.out.base_le rfl).2
                  have hgrh : gr ≠ gh := by
                    rcases Hgh.out with h | h
                    · have h : gh = gh0 := h
                      omega
                    · have h : W1.heap.size ≤ gh := h
                      omega
                  have hR4 := hR2.grown HG.out (fun ad ha => by cases ha; simp; omega)
                  have lgr4 := (hR4.base_le rfl).2
                  rw [Hgp.out] at lgr4
                  obtain ⟨rL, hrL⟩ : ∃ rL, rD key 16 = rL := ⟨_, rfl⟩
                  have hrlen := rD_len key 16
                  have hrlt := rD_lt key 16
                  have hrv := HRQ.h
                  rw [hrL] at hR4 hrlen hrlt hrv
                  have HR4 := Lib.hid hR4
                  have Hrlt := Lib.hid hrlt
                  have Hrv := EQ1.mk hrv
                  have hll := HLQ.out.len
                  clear hR2 hR4 hrL hrlt hrv
                  go_loopw [96] (fun s96 wr => ∃ (i : Nat) (L : List Nat), i ≤ 17 ∧ s96 = .int .i64 (i : Int) ∧ OW wr gp 3 1 (some ⟨gp, 0, none⟩) 40 40 (L.map IV) ∧ PR (valD (l'.take i) * R) (16 * i) L ∧ Below gp W4 wr) (fun s96 _ => 17 - (intOf s96).toNat)
                  case atStart => exact ⟨0, _, by omega, rfl, O6.out, by simp [valD]; exact PR_zero, B6.out⟩
                  case round =>
                    obtain ⟨i5, L, hi5, rfl, hoL, hPR, hbL⟩ := hrel
                    clear O6 B6
                    by_cases hlt5 : i5 < 17
                    · obtain ⟨x, ex⟩ : ∃ x, l'[i5]? = some x := ⟨_, List.getElem?_eq_getElem (by omega)⟩
                      have lx := HLQ.out.le x (List.mem_of_getElem? ex)
                      have qx : wr.cell? ⟨gh, i5, none⟩ = some (.int .i64 (x : Int)) := (hbL.cell (p := ⟨gh, i5, none⟩) lgh4).trans (HOW.out.cell i5 _ (iv_get ex))
                      have htk := valD_take_succ l' i5 x ex
                      have Htk := EQ1.mk htk
                      have HoL := Lib.hid hoL
                      have HPR := Lib.hid hPR
                      have HbL := Lib.hid hbL
                      clear ex htk hoL hPR hbL
                      go_upto_region 37 with (fail)
                      clear qx
                      try rw [show decide ((i5 : Int) < 17) = true from decide_eq_true (by omega)]
                      go_loopw [103] (fun s103 wr => ∃ (j : Nat) (L : List Nat), j ≤ 16 ∧ s103 = .int .i64 (j : Int) ∧ OW wr gp 3 1 (some ⟨gp, 0, none⟩) 40 40 (L.map IV) ∧ PR (valD (l'.take i5) * R + 256 ^ i5 * (x * valD (rL.take j))) (16 * i5 + j) L ∧ Below gp W4 wr) (fun s103 _ => 16 - (intOf s103).toNat)
                      case atStart => exact ⟨0, _, by omega, rfl, HoL.out, by simpa [valD] using HPR.out, HbL.out⟩
                      case round =>
                        obtain ⟨j, L, hj, rfl, hoL, hPR, hbL⟩ := hrel
                        clear HoL HPR HbL
                        by_cases hlt6 : j < 16
                        · obtain ⟨y, ey⟩ : ∃ y, rL[j]? = some y := ⟨_, List.getElem?_eq_getElem (by omega)⟩
                          have ly := Hrlt.out y (List.mem_of_getElem? ey)
                          have qy : wr.cell? ⟨gr, j, none⟩ = some (.int .i64 (y : Int)) := (hbL.cell (p := ⟨gr, j, none⟩) lgr4).trans (HR4.out.cell j _ (iv_get ey))
                          obtain ⟨u, hu⟩ : ∃ u, i5 + j = u := ⟨_, rfl⟩
                          have hui : (i5 : Int) + (j : Int) = (u : Int) := by omega
                          have hL40 := hPR.len
                          obtain ⟨a9, ea⟩ : ∃ a9, L[u]? = some a9 := ⟨_, List.getElem?_eq_getElem (by omega)⟩
                          have la := hPR.le a9 (List.mem_of_getElem? ea)
                          have la2 : a9 ≤ 130305 * 288 := Nat.le_trans la (Nat.mul_le_mul_left _ (by omega))
                          have hpr := hPR.row (by rw [hu]; exact ea) ey lx (by omega)
                          obtain ⟨z, hz⟩ : ∃ z, x * y = z := ⟨_, rfl⟩
                          have hzi : (x : Int) * (y : Int) = (z : Int) := by rw [← hz]; simp
                          have lz : z ≤ 511 * 255 := by rw [← hz]; exact Nat.mul_le_mul lx (by omega)
                          rw [hu, hz] at hpr
                          have qa := hoL.cell u _ (iv_get ea)
                          have fa := hoL.frozen u
                          have H2 := Lib.hid (show OW (wr.setCell ⟨gp, u, none⟩ (.int .i64 ((a9 : Int) + (z : Int)))) gp 3 1 (some ⟨gp, 0, none⟩) 40 40 ((L.set u (a9 + z)).map IV) by
                            rw [List.map_set]
                            exact hoL.setCell u (IV (a9 + z)) rfl)
                          have B2 := Lib.hid (show Below gp W4 (wr.setCell ⟨gp, u, none⟩ (.int .i64 ((a9 : Int) + (z : Int)))) from hbL.grown (grownBy_setCell wr ⟨gp, u, none⟩ _) (Nat.le_of_lt (hoL.base_le rfl).2) (fun k hk => by cases hk; exact Nat.le_refl _))
                          have P2 := Lib.hid hpr
                          have hu40 : u < 40 := by omega
                          clear hoL hPR hbL ey ea la hu hz hpr
                          go_wp2
                          go_roundw
                          case rel => exact ⟨j + 1, _, by omega, by go_num, H2.out, P2.out, B2.out⟩
                          case measure => simp [intOf]; omega
                        · have hj16 : j = 16 := by omega
                          rw [hj16, show rL.take 16 = rL from List.take_of_length_le (by omega), Hrv.h] at hPR
                          have hpr : PR (valD (l'.take (i5 + 1)) * R) (16 * (i5 + 1)) L := by
                            rw [Htk.h, Nat.add_mul, Nat.mul_assoc]; exact hPR
                          have HoL := Lib.hid hoL
                          have HPR := Lib.hid hpr
                          have HbL := Lib.hid hbL
                          clear hoL hPR hpr hbL hj16
                          go_wp2
                          go_roundw
                          case rel => exact ⟨i5 + 1, _, by omega, by go_num, HoL.out, HPR.out, HbL.out⟩
                          case measure => simp [intOf]; omega
                    · have hi17 : i5 = 17 := by omega
                      have hv := HLQ.out.val
                      have hbv : valD ((bD P).take N) = valD (bD P) := by rw [List.take_of_length_le (by omega)]
                      rw [hbv, bD_val] at hv
                      rw [hi17, show l'.take 17 = l' from List.take_of_length_le (by omega), hv] at hPR
                      have hb17 := blk17_lt P
                      have hpV := hPR.val
                      have hHl := HHl.out
                      have hVl : valD L < 1361129467683753853853498429727072845824 * 1361129467683753853853498429727072845824 := by
                        rw [hpV]
                        have h1 : H + numL (blk17 P) ≤ 2722258935367507707706996859454145691648 := by unfold pP at hHl; omega
                        have h2 := Nat.mul_le_mul h1 (Nat.le_of_lt hRl)
                        omega
                      have hle : ∀ x ∈ L, x ≤ 255 * 1099511627776 := fun x hx => by have := hPR.le x hx; omega
                      have hlf := left_any wr hoL.rs hle hVl
                      have hpn : valD L % pP = polyN R p (k + 1) := by rw [hpV, polyN, HHe.h, HPe.out]
                      rw [hpn] at hlf
                      have Hlf := Lib.hid hlf
                      have HbL := Lib.hid hbL
                      have g3 := grown_below HQQ.out.gr HB5.out
                      have g4 : W1.grownBy W4 (some gh0) := by
                        rcases Hgh.out with h | h
                        · have h : gh = gh0 := h
                          rw [← h] at g3 ⊢
                          exact grown_trans g3 HG.out
                        · exact grown_new g3 HG.out h
                      have g5 : W1.grownBy wr (some gh0) := grown_below g4 (by rw [Hgp.out]; exact hbL)
                      obtain ⟨b8, hd8, hsl8⟩ := runB_l HRW.out i htm
                      have hdp := drop_part (p := p) (n := p.length) (k := k) (m := m') (t := i) rfl (by have := hPl; rw [← HPe.out, List.length_drop] at this; omega) Htx.out
                      rw [← HPe.out, hdp] at hd8
                      have hzs : W1.heap.size ≤ wr.heap.size := g5.size
                      have Hd8 := Lib.hid hd8
                      have G5 := Lib.hid g5
                      have hfew : 16 * (k + 1) < p.length + 16 := by have := hPl; rw [← HPe.out, List.length_drop] at this; omega
                      have him : (i : Int) ≤ (m' : Int) := by omega
                      clear hoL hPR hbL hv hbv hb17 hpV hHl hVl hle hlf hpn g3 g4 g5 hd8 hdp hi17
                      go_wp2_with (go_at_call 96; refine Hlf.out.mono ?_; rintro x w8 ⟨a8, c8, rfl, o8, B8⟩)
                      have hqn : TQ w W1 w8 gh0 R p (k + 1) a8 c8 b8 (m' - i) (e' - i) := ⟨o8.mono (Nat.le_trans HB1.out.size hzs), Hd8.out, grown_below G5.out B8, fun ad ha => .inr (Nat.le_trans hzs (o8.base_le ha).1), hfew⟩
                      have HQN := Lib.hid hqn
                      clear o8 B8 hqn
                      go_roundw
                      case rel => exact ⟨k + 1, _, _, _, _, _, rfl, rfl, HQN.out⟩
                      case measure => have := Htx.out; simp [lenV]; omega
        · have hfew := hq.few
          have hkp : (p.length + 15) / 16 = k := by have := hPl; rw [← hP, List.length_drop] at this; omega
          have hfin := hD.h
          rw [tag_num key p (ldL_lf _), HRQ.k, hkp] at hfin
          have hown := hq.own
          have hHl := polyN_lt R p k
          obtain ⟨H, hH⟩ : ∃ H, polyN R p k = H := ⟨_, rfl⟩
          obtain ⟨ks, hks⟩ : ∃ ks, key.drop 16 = ks := ⟨_, rfl⟩
          rw [hH] at hown hHl hfin
          rw [hks] at hfin
          have Hfin := EB.mk hfin
          have hvH : valD (digs H 17) = H := by
            rw [valD_digs, Nat.mod_eq_of_lt]
            have e : (256 : Nat) ^ 17 = 87112285931760246646623899502532662132736 := by decide
            unfold pP at hHl; omega
          have hlf := left_any wr hown.rs (fun x hx => by have := digs_lt _ _ x hx; omega) (by rw [hvH]; unfold pP at hHl; omega)
          rw [hvH, Nat.mod_eq_of_lt hHl, ← sK_zero H ks] at hlf
          have Hlf := Lib.hid hlf
          have Hks := EB.mk hks
          have hm00 : m' = 0 := by omega
          subst hm00
          clear hfew hkp hfin hown hHl hH hvH hlf hks hq hrest hP HRW
          go_upto_region 46 with (go_at_call 96; refine Hlf.out.mono ?_; rintro x w6 ⟨a6, c6, rfl, o6, B6⟩)
          obtain ⟨g6, rfl, lg61, lg62⟩ : ∃ g, a6 = some ⟨g, 0, none⟩ ∧ wr.heap.size ≤ g ∧ g < w6.heap.size := by
            rcases o6.shape with ⟨_, h, _⟩ | ⟨g, cur, h1, h2, h3, _⟩
            · omega
            · exact ⟨g, h1, h2, h3⟩
          have hb6 := HBW.out.trans (B6.mono HBW.out.size)
          have hzw := HBW.out.size
          have O6 := Lib.hid o6
          have HB6 := Lib.hid hb6
          have hkl16 : 32 ≤ key.length := by omega
          clear o6 B6 hb6
          generalize wr = W6 at *
          go_loopw [128] (fun s128 wr => ∃ i : Nat, i ≤ 16 ∧ s128 = .int .i64 (i : Int) ∧ OW wr W6.heap.size 3 1 (some ⟨g6, 0, none⟩) 17 c6 ((sK H ks i).map IV) ∧ Below w.heap.size w wr) (fun s128 _ => 16 - (intOf s128).toNat)
          case atStart => exact ⟨0, by omega, rfl, O6.out, HB6.out⟩
          case round =>
            obtain ⟨i, hi, rfl, ho, hb⟩ := hrel
            clear O6 HB6
            have hoc := ho.rs.le
            by_cases hlt : i < 16
            · obtain ⟨u, hu⟩ : ∃ u, 16 + i = u := ⟨_, rfl⟩
              have hui : (16 : Int) + (i : Int) = (u : Int) := by omega
              obtain ⟨y, ey⟩ : ∃ y, key[u]? = some y := ⟨_, List.getElem?_eq_getElem (by omega)⟩
              have gy : ks.getD i 0 = y := by rw [List.getD_eq_getElem?_getD, ← Hks.h, List.getElem?_drop, hu, ey]; rfl
              have q2 : wr.cell? ⟨ba, oa + u, none⟩ = some (.int .u8 (y.toNat : Int)) := (hb.cell (p := ⟨ba, oa + u, none⟩) lba).trans (HKA.out u y ey)
              obtain ⟨x, hx⟩ : ∃ x, H / 256 ^ i % 256 = x := ⟨_, rfl⟩
              have hxl : x < 256 := by omega
              have q1 : wr.cell? ⟨g6, i, none⟩ = some (.int .i64 (x : Int)) := ho.cell i _ (iv_get (by rw [sK_get _ _ _ (by omega), hx]))
              have f1 := ho.frozen i
              have hset := sK_set H ks i (by omega)
              rw [hx, gy] at hset
              have hyl := y.toNat_lt
              obtain ⟨z, hz⟩ : ∃ z, y.toNat = z := ⟨_, rfl⟩
              rw [hz] at q2 hset hyl
              have H2 := Lib.hid (OW.drew (show OW (wr.setCell ⟨g6, i, none⟩ (.int .i64 ((x : Int) + (z : Int)))) W6.heap.size 3 1 (some ⟨g6, 0, none⟩) 17 c6 ((sK H ks (i + 1)).map IV) by
                rw [← hset, List.map_set]
                exact ho.setCell i (IV (x + z)) rfl))
              have B2 := Lib.hid (show Below w.heap.size w (wr.setCell ⟨g6, i, none⟩ (.int .i64 ((x : Int) + (z : Int)))).drew from (hb.grown (grownBy_setCell wr ⟨g6, i, none⟩ _) hb.size (fun k hk => by cases hk; exact Nat.le_trans hzw lg61)).drew)
              have hu32 : u < 32 := by omega
              clear ey gy hx hset hz ho hb hu
              go_upto_region 48 with (fail)
              go_region
              clear q1 q2 f1 hui
              generalize World.drew _ = W7 at *
              go_wp2
              go_roundw
              case rel => exact ⟨i + 1, by omega, by go_num, H2.out, B2.out⟩
              case measure => simp [intOf]; omega
            · have hi16 : i = 16 := by omega
              rw [hi16] at ho
              have hcar := rcarry_any wr ho.rs 16 (by omega) (sK_le _ _ _)
              have hto := sK_tout H ks
              rw [Hfin.h] at hto
              obtain ⟨D, hDe⟩ : ∃ D, digs (valD (sK H ks 16)) 16 = D := ⟨_, rfl⟩
              have hDl := digs_len (valD (sK H ks 16)) 16
              have hDt := digs_lt (valD (sK H ks 16)) 16
              rw [hDe] at hcar hto hDl hDt
              have Hcar := Lib.hid hcar
              have Hto := EB.mk hto
              have HDt := Lib.hid hDt
              have HB := Lib.hid hb
              clear ho hb hcar hto hDe hDt hi16
              go_upto_region 52 with (go_at_call 97; refine Hcar.out.mono ?_; rintro x w7 ⟨rfl, o7, B7⟩)
              obtain ⟨g7, hg7⟩ : ∃ g7, wr.heap.size = g7 := ⟨_, rfl⟩
              have lg7 := (o7.base_le rfl).2
              have HB7 := Lib.hid (HB.out.trans (B7.mono HB.out.size))
              rw [hg7] at o7 lg7 ⊢
              have O7 := Lib.hid o7
              have hz7 := HB7.out.size
              clear o7 B7 hg7
              go_loopw [21, 147] (fun s21 s147 wr => ∃ (i : Nat) (a : Option Addr) (c : Nat), i ≤ 16 ∧ s147 = .int .i64 (i : Int) ∧ s21 = .slice a i c ∧ OW wr w7.heap.size 5 1 a i c (((D.take i).map UInt8.ofNat).map B) ∧ Below w7.heap.size w7 wr) (fun _ s147 _ => 16 - (intOf s147).toNat)
              case atStart => exact ⟨0, none, 0, by omega, rfl, rfl, OW_nil _ _ _ _, Below.refl _ _⟩
              case round =>
                obtain ⟨i, a9, c9, hi, rfl, rfl, ho, hb⟩ := hrel
                have hlen := ho.rs.le
                have hsz := hb.size
                by_cases hlt : i < 16
                · obtain ⟨x, ex⟩ : ∃ x, D[i]? = some x := ⟨_, List.getElem?_eq_getElem (by omega)⟩
                  have hxl := HDt.out x (List.mem_of_getElem? ex)
                  have q0 : wr.cell? ⟨g7, i, none⟩ = some (.int .i64 (x : Int)) := (hb.cell (p := ⟨g7, i, none⟩) lg7).trans (O7.out.cell i _ (iv_get ex))
                  have hnx : EB ((D.take (i + 1)).map UInt8.ofNat) ((D.take i).map UInt8.ofNat ++ [UInt8.ofNat x]) := ⟨by rw [List.take_add_one, ex]; simp⟩
                  have hbx : B (UInt8.ofNat x) = .int .u8 (x : Int) := by simp only [B, UInt8.toNat_ofNat', Nat.mod_eq_of_lt hxl]
                  have hwx : IntKind.u8.wrap (x : Int) = (x : Int) := by rw [IntKind.wrap_u8']; omega
                  have HO := Lib.hid ho
                  have HB := Lib.hid hb
                  have Hbx := Lib.hid hbx
                  clear ho hb ex hbx
                  go_wp2_with (at_builtin; refine L_append tB (OW.alloc HO.out _) (RS_one _ _ _ rfl) _ _ rfl rfl rfl rfl (by omega) (by unfold maxLen; omega) (by simp; omega) ?_; intro a5 c5 w5 o5 g5)
                  have B5 := Lib.hid ((HB.out.alloc hsz _).grown g5 (by simp; omega) (row_le (fun ad ha => (HO.out.base_le ha).1) (Nat.le_refl _)))
                  have O5 := Lib.hid (show OW w5 w7.heap.size 5 1 a5 (i + 1) c5 (((D.take (i + 1)).map UInt8.ofNat).map B) by rw [hnx.h, List.map_append, List.map_cons, List.map_nil, Hbx.out]; exact o5)
                  clear o5 g5
                  go_roundw
                  case rel => exact ⟨i + 1, a5, c5, by omega, by go_num, rfl, O5.out, B5.out⟩
                  case measure => simp [intOf]; omega
                · obtain rfl : i = 16 := by omega
                  rw [List.take_of_length_le (by omega), Hto.h] at ho
                  have HO := Lib.hid (ho.mono hz7)
                  have HB8 := Lib.hid (HB7.out.trans (hb.mono hz7))
                  clear ho hb
                  go_wp2
                  go_ret
                  exact ⟨_, _, rfl, HO.out, HB8.out⟩
end Go.Proofs.YtlncnjcbgfeaoaaDoor

/- the reference's mix. -/
set_option maxRecDepth 100000
set_option linter.unusedVariables false
namespace Go.Proofs.YtlncnjcbgfeaoaaDoor
open Go.RowKit
theorem mix_at {key nonce p d s : List UInt8} (hD : MX key nonce p d) (hs : SM key nonce 1 p.length s) (i : Nat) (x y : UInt8) (hx : p[i]? = some x) (hy : s[i]? = some y) : d[i]? = some (x ^^^ y) := by
  have hi := (List.getElem?_eq_some_iff.1 hx).1
  rw [← hD.h]
  unfold mixS
  rw [mixJ_get _ _ _ _ hi, if_pos hi]
  have h1 := hs.h
  rw [← h1, List.getElem?_take, if_pos hi] at hy
  rw [List.getD_eq_getElem?_getD, List.getD_eq_getElem?_getD, hx, hy]; rfl
set_option maxHeartbeats 4000000 in
theorem rmix_any (w : World) {a b o : Option Addr} {n c m e l f : Nat} {key nonce p d : List UInt8} (hk : BS w a n c key) (hn : BS w b m e nonce) (hp : BS w o l f p) (hkl : key.length = 32) (hnl : nonce.length = 12) (hl : l ≤ 65536) (hD : MX key nonce p d) :
    Calls Tryd.prog 60 #[.slice a n c, .slice b m e, .slice o l f] w fun x w' => ∃ a c, x = .returned (.slice a l c) ∧ OW w' w.heap.size 5 1 a l c (d.map B) ∧ Below w.heap.size w w' := by
  have hpl := BS.len hp
  have hdl := hD.len
  obtain ⟨s, hs⟩ := SM_ex key nonce 1 l
  have hsl := hs.len
  have hat := fun i x y => mix_at hD (by rw [hpl]; exact hs) i x y
  have Hat := Lib.hid hat
  have Hst := Lib.hid (rstream_any w hk hn hkl hnl 1 (by omega) l hl hs)
  have HP := Lib.hid hp
  have hmin : (if (65536 : Int) < (l : Int) then (65536 : Int) else (l : Int)) = (l : Int) := by rw [if_neg (by omega)]
  clear hat hs hk hn hp
  go_enter Tryd.func60, Tryd.ntmps60
  go_upto_region 2 with (go_at_call 79; go_loud (refine Hst.out.mono ?_); rintro x w2 ⟨a2, c2, rfl, o2, B2⟩)
  have hp2 := RS.below HP.out B2 (Nat.le_refl _)
  have HO2 := Lib.hid o2
  have HP2 := Lib.hid hp2
  have HB2 := Lib.hid B2
  have z2 := B2.size
  have hlc := RS.le HP.out
  have hlm := RS.max HP.out
  have hsc := o2.rs.le
  unfold maxLen at hlm
  clear o2 hp2 B2 hmin Hst
  rcases Nat.eq_zero_or_pos l with hl0 | hl0
  · subst hl0
    have hd0 : d = [] := List.eq_nil_of_length_eq_zero (by omega)
    subst hd0
    go_wp2
    go_loopw [9, 23] (fun s9 s23 wr => s9 = .slice none 0 0 ∧ s23 = .int .i64 0 ∧ wr = w2) (fun _ _ _ => 0)
    case atStart => exact ⟨rfl, rfl, rfl⟩
    case round =>
      obtain ⟨rfl, rfl, rfl⟩ := hrel
      go_wp2
      go_ret
      exact ⟨none, 0, rfl, OW_nil _ _ _ _, HB2.out⟩
  · obtain ⟨bo, oo, rfl, hpc⟩ := BS.at_ HP2.out hl0
    obtain ⟨g2, rfl, lg1, lg2⟩ : ∃ g, a2 = some ⟨g, 0, none⟩ ∧ w.heap.size ≤ g ∧ g < w2.heap.size := by
      rcases HO2.out.shape with ⟨_, h, _⟩ | ⟨g, cur, h1, h2, h3, _⟩
      · omega
      · exact ⟨g, h1, h2, h3⟩
    have lbo : bo < w2.heap.size := RS.block_lt HP2.out rfl hl0 (by omega)
    have HPC := Lib.hid hpc
    clear hpc
    go_wp2
    go_loopw [9, 23] (fun s9 s23 wr => ∃ (i : Nat) (a : Option Addr) (c : Nat), i ≤ l ∧ s23 = .int .i64 (i : Int) ∧ s9 = .slice a i c ∧ OW wr w2.heap.size 5 1 a i c ((d.take i).map B) ∧ Below w2.heap.size w2 wr) (fun _ s23 _ => l - (intOf s23).toNat)
    case atStart => exact ⟨0, none, 0, by omega, rfl, rfl, OW_nil _ _ _ _, Below.refl _ _⟩
    case round =>
      obtain ⟨i, a', c', hi, rfl, rfl, ho, hb⟩ := hrel
      have hsz := hb.size
      have hlen := ho.rs.le
      by_cases hlt : i < l
      · obtain ⟨x, ex⟩ : ∃ x, p[i]? = some x := ⟨_, List.getElem?_eq_getElem (by omega)⟩
        obtain ⟨y, ey⟩ : ∃ y, s[i]? = some y := ⟨_, List.getElem?_eq_getElem (by omega)⟩
        have ed := Hat.out i x y ex ey
        have q1 : wr.cell? ⟨bo, oo + i, none⟩ = some (.int .u8 (x.toNat : Int)) := (hb.cell (p := ⟨bo, oo + i, none⟩) lbo).trans (HPC.out i x ex)
        have q2 : wr.cell? ⟨g2, i, none⟩ = some (.int .u8 (y.toNat : Int)) := (hb.cell (p := ⟨g2, i, none⟩) lg2).trans (HO2.out.cell i (B y) (by rw [List.getElem?_map, ey]; rfl))
        have hxor := u8_xor_nat x.toNat y.toNat x.toNat_lt y.toNat_lt
        have hnx : EB (d.take (i + 1)) (d.take i ++ [x ^^^ y]) := ⟨by rw [List.take_add_one, ed]; rfl⟩
        have hv : B (x ^^^ y) = .int .u8 ((x.toNat ^^^ y.toNat : Nat) : Int) := by simp [B]
        obtain ⟨z, hz⟩ : ∃ z, x.toNat ^^^ y.toNat = z := ⟨_, rfl⟩
        rw [hz] at hxor hv
        have Hv := Lib.hid hv
        have HO := Lib.hid ho
        have HB := Lib.hid hb
        clear ho hb ex ey ed hv hz
        go_wp2_with (at_builtin; refine L_append tB (OW.alloc HO.out _) (RS_one _ _ _ rfl) _ _ rfl rfl rfl rfl (by omega) (by unfold maxLen; omega) (by simp; omega) ?_; intro a5 c5 w5 o5 g5)
        have B5 := Lib.hid ((HB.out.alloc hsz _).grown g5 (by simp; omega) (row_le (fun ad ha => (HO.out.base_le ha).1) (Nat.le_refl _)))
        have O5 := Lib.hid (show OW w5 w2.heap.size 5 1 a5 (i + 1) c5 ((d.take (i + 1)).map B) by rw [hnx.h, List.map_append, List.map_cons, List.map_nil, Hv.out]; exact o5)
        clear o5 g5
        go_roundw
        case rel => exact ⟨i + 1, a5, c5, by omega, by go_num, rfl, O5.out, B5.out⟩
        case measure => simp [intOf]; omega
      · have hil : i = l := by omega
        subst hil
        rw [List.take_of_length_le (by omega)] at ho
        have HO := Lib.hid (ho.mono z2)
        have HB := Lib.hid (HB2.out.trans (hb.mono z2))
        clear ho hb
        go_wp2
        go_ret
        exact ⟨_, _, rfl, HO.out, HB.out⟩
end Go.Proofs.YtlncnjcbgfeaoaaDoor
