/- texts R2 S2 R3 in one. -/
import Derived.Test.YtkhcpnmbhbhcgaaDoorYab
import Derived.Test.YtkhcpnmbhbhcgaaDoorYad
import Derived.WalkSpells
import Derived.BigQuiet
import Derived.Deep.QuietTactic

/- bytes.Clone, bytes.Equal; numbers of QUIC: vint.Take and its reference: what they hand back. -/
namespace Go.Proofs.YtkhcpnmbhbhcgaaDoor
open Go.RowKit
theorem ret_true {b : Bool} (h : b = true) : Ending.returned (.bool b) = .returned (.bool true) := by rw [h]
theorem clone_any (w : World) {a : Option Addr} {n c : Nat} {vs : List Value} (hx : RS w 1 a n c vs) (hn : n ≤ 140737488355328) :
    Calls Tryd.prog 25 #[.slice a n c] w (Made w n vs) := by
  cases a with
  | none =>
    obtain ⟨rfl, rfl, rfl⟩ := hx.nil_inv
    have hq := fun w1 => Lib.run_eql_slice_nil (P := Tryd.prog) w1 22 5 none 0 0 0 0 Tryd.underlying22
    go_enter Tryd.func25, Tryd.ntmps25
    go_wp2
    go_ret
    exact ⟨none, 0, rfl, OW_nil _ _ _ _, Below.refl _ _⟩
  | some ad =>
    have hq := fun w1 => Lib.run_eql_slice_nil (P := Tryd.prog) w1 22 5 (some ad) n c 0 0 Tryd.underlying22
    have hO := OW_empty w w.heap.size 5 1 (Nat.le_refl _)
    go_enter Tryd.func25, Tryd.ntmps25
    go_wp2_with (at_builtin; refine L_append tB hO (hx.alloc _) _ _ rfl rfl rfl rfl (by omega) (by unfold maxLen; omega) (by simp) ?_; intro a' c' w' h1 h2)
    go_ret
    exact ⟨a', c', rfl, by simpa using h1, below_own (below_alloc w _) hO h2 (Nat.le_refl _) (by simp)⟩
theorem equal_any (w : World) {a b : Option Addr} {n c m d : Nat} {xs ys : List UInt8} (hx : RS w 1 a n c (xs.map B)) (hy : RS w 1 b m d (ys.map B)) :
    Calls Tryd.prog 71 #[.slice a n c, .slice b m d] w fun e w' => e = .returned (.bool (xs == ys)) ∧ w = w' := by
  go_enter Tryd.func71, Tryd.ntmps71
  go_wp2_with (first | (refine L_string tB Tryd.underlying5 9 Tryd.underlying9 hx _ rfl rfl rfl ?_) | (refine L_string tB Tryd.underlying5 9 Tryd.underlying9 hy _ rfl rfl rfl ?_))
  go_ret
  exact ⟨rfl, rfl⟩
end Go.Proofs.YtkhcpnmbhbhcgaaDoor

/- ref02.primes: the first primes. -/
set_option maxRecDepth 100000
set_option linter.unusedVariables false
namespace Go.Proofs.YtkhcpnmbhbhcgaaDoor
open Go.RowKit
/-- the primes below k, as the program finds them -/
def prAcc : Nat → List Nat
  | 0 => []
  | k + 1 => if 2 ≤ k ∧ (prAcc k).all (fun p => k % p != 0) then prAcc k ++ [k] else prAcc k
theorem prAcc_pre (k : Nat) : prAcc k <+: prAcc (k + 1) := by
  show prAcc k <+: (if _ then _ else _)
  split
  · exact List.prefix_append _ _
  · exact List.prefix_refl _
theorem prAcc_mono (k m : Nat) (h : k ≤ m) : prAcc k <+: prAcc m := by
  induction m with
  | zero => obtain rfl : k = 0 := by omega
            exact List.prefix_refl _
  | succ m ih =>
    rcases Nat.lt_or_ge k (m + 1) with hlt | hge
    · exact (ih (by omega)).trans (prAcc_pre m)
    · obtain rfl : k = m + 1 := by omega
      exact List.prefix_refl _
theorem prAcc_two (k : Nat) : ∀ p ∈ prAcc k, 2 ≤ p ∧ p < k := by
  induction k with
  | zero => intro p h; simp [prAcc] at h
  | succ k ih =>
    intro p h
    unfold prAcc at h
    split at h
    · next hc =>
      rcases List.mem_append.1 h with h | h
      · have := ih p h; omega
      · rw [List.mem_singleton.1 h]; omega
    · have := ih p h; omega
theorem prAcc_312 : (prAcc 312).length = 64 := by decide +kernel
theorem primes_64 : (prAcc 312).take 64 = primesS 64 := by decide +kernel
theorem primes_8 : (prAcc 312).take 8 = primesS 8 := by decide +kernel
theorem prAcc_short (k n : Nat) (hn : n ≤ 64) (h : (prAcc k).length < n) : k < 312 := by
  rcases Nat.lt_or_ge k 312 with hk | hk
  · exact hk
  · have := (prAcc_mono 312 k hk).length_le
    rw [prAcc_312] at this; omega
theorem prAcc_done (k n : Nat) (hk : k ≤ 312) (h : (prAcc k).length = n) : prAcc k = (prAcc 312).take n := by
  obtain ⟨r, hr⟩ := prAcc_mono k 312 hk
  rw [← hr, ← h, List.take_left]
def UL (x : Nat) : Value := .int .u64 (x : Int)
theorem one_UL (xs : List Nat) : ∀ v ∈ xs.map UL, v.oneCell' = true := by
  intro v hv; obtain ⟨x, _, rfl⟩ := List.mem_map.1 hv; rfl
theorem tL : STy Tryd.prog 90 37 (.int .u64 0) 1 8 := ⟨Tryd.underlying90, by kernel_rfl, rfl, by decide⟩
set_option maxHeartbeats 2000000 in
theorem primes_any (n : Nat) (hn : n ≤ 64) (w : World) : Calls Tryd.prog 48 #[.int .i64 (n : Int)] w fun e w' => ∃ a c, e = .returned (.slice a n c) ∧ OW w' w.heap.size 37 1 a n c (((prAcc 312).take n).map UL) ∧ Below w.heap.size w w' := by
  go_enter Tryd.func48, Tryd.ntmps48
  go_wp2
  go_loopw [3, 4] (fun s3 s4 wr => ∃ (k L : Nat) (a : Option Addr) (c : Nat), 2 ≤ k ∧ k ≤ 312 ∧ L ≤ n ∧ (prAcc k).length = L ∧ s4 = .int .u64 (k : Int) ∧ s3 = .slice a L c ∧ OW wr w.heap.size 37 1 a L c ((prAcc k).map UL) ∧ Below w.heap.size w wr) (fun _ s4 _ => 312 - (intOf s4).toNat)
  case atStart => exact ⟨2, 0, none, 0, by omega, by omega, by omega, rfl, rfl, rfl, OW_nil _ _ _ _, Below.refl _ _⟩
  case round =>
    obtain ⟨k, L, a, c, hk2, hk, hL, hlen, rfl, rfl, ho, hb⟩ := hrel
    by_cases hlt : L < n
    · have hk312 := prAcc_short k n hn (by omega)
      have hr := ho.rs
      have hsz := hb.size
      have Ho := Lib.hid ho
      have Hb := Lib.hid hb
      have Hlen := Lib.hid hlen
      obtain ⟨W3, rfl⟩ : ∃ W3, W3 = wr := ⟨wr, rfl⟩
      clear ho hb hlen
      go_wp2
      go_loopw [5, 16] (fun s5 s16 wr => ∃ j : Nat, j ≤ L ∧ s16 = .int .i64 (j : Int) ∧ s5 = .bool (((prAcc k).take j).all fun p => k % p != 0) ∧ wr = W3) (fun _ s16 _ => L - (intOf s16).toNat)
      case atStart => exact ⟨0, by omega, rfl, rfl, rfl⟩
      case round =>
        obtain ⟨j, hj, rfl, rfl, rfl⟩ := hrel
        by_cases hjl : j < L
        · obtain ⟨p, hp⟩ : ∃ p, (prAcc k)[j]? = some p := ⟨_, List.getElem?_eq_getElem (by rw [Hlen.out]; exact hjl)⟩
          have hp2 := (prAcc_two k p (List.mem_of_getElem? hp)).1
          have hall : ((prAcc k).take (j + 1)).all (fun p => k % p != 0) = (((prAcc k).take j).all (fun p => k % p != 0) && (k % p != 0)) := by
            rw [List.take_add_one, hp]; simp
          have Hall := Lib.hid hall
          have hc : ((prAcc k).map UL)[j]? = some (.int .u64 (p : Int)) := by rw [List.getElem?_map, hp]; rfl
          have Hc := Lib.hid hc
          obtain ⟨t, ht⟩ : ∃ t, ((prAcc k).take j).all (fun p => k % p != 0) = t := ⟨_, rfl⟩
          rw [ht] at Hall ⊢
          clear hp hall hc ht
          cases t with
          | false =>
            go_wp2_with (refine L_index tL hr _ _ rfl rfl _ _ rfl rfl (by omega) (by omega) _ (by simpa using Hc.out) ?_; intro q hq)
            exact ⟨⟨j + 1, by omega, by go_num, by rw [Hall.out]; rfl, trivial⟩, by simp [intOf]; omega⟩
          | true =>
            obtain ⟨m, hm⟩ : ∃ m, k % p = m := ⟨_, rfl⟩
            have hmod : ((k : Int) % (p : Int)) = (m : Int) := by rw [← hm]; exact (Int.natCast_emod k p).symm
            rw [hm] at Hall
            clear hm
            cases m with
            | zero =>
              rw [show ((0 : Nat) : Int) = 0 from rfl] at hmod
              go_wp2_with (refine L_index tL hr _ _ rfl rfl _ _ rfl rfl (by omega) (by omega) _ (by simpa using Hc.out) ?_; intro q hq)
              exact ⟨⟨j + 1, by omega, by go_num, by rw [Hall.out]; rfl, trivial⟩, by simp [intOf]; omega⟩
            | succ m =>
              have hne : ¬ (((m + 1 : Nat) : Int) = 0) := by omega
              go_wp2_with (refine L_index tL hr _ _ rfl rfl _ _ rfl rfl (by omega) (by omega) _ (by simpa using Hc.out) ?_; intro q hq)
              exact ⟨⟨j + 1, by omega, by go_num, by rw [Hall.out]; rfl, trivial⟩, by simp [intOf]; omega⟩
        · obtain rfl : j = L := by omega
          rw [List.take_of_length_le (by rw [Hlen.out]; omega)]
          have hstep : prAcc (k + 1) = if ((prAcc k).all fun p => k % p != 0) = true then prAcc k ++ [k] else prAcc k := by
            show (if 2 ≤ k ∧ ((prAcc k).all fun p => k % p != 0) = true then _ else _) = _
            simp only [hk2, true_and]
          have Hstep := Lib.hid hstep
          clear hstep
          cases hf : ((prAcc k).all fun p => k % p != 0) with
          | false =>
            have h2 : prAcc (k + 1) = prAcc k := by rw [Hstep.out, hf, if_neg (by decide)]
            have H2 := Lib.hid h2
            clear h2 hf
            go_wp2
            go_roundw
            case rel => exact ⟨k + 1, j, a, c, by omega, by omega, by omega, by rw [H2.out]; exact Hlen.out, by go_num, rfl, by rw [H2.out]; exact Ho.out, Hb.out⟩
            case measure => simp [intOf]; omega
          | true =>
            have h2 : prAcc (k + 1) = prAcc k ++ [k] := by rw [Hstep.out, hf, if_pos rfl]
            have H2 := Lib.hid h2
            have h3 : (prAcc k).map UL ++ [.int .u64 (k : Int)] = (prAcc (k + 1)).map UL := by rw [h2, List.map_append]; rfl
            have H3 := Lib.hid h3
            clear h2 hf h3
            go_wp2_with (at_builtin; refine L_append tL (Ho.out.alloc _) (RS_one _ _ _ rfl) _ _ rfl rfl rfl rfl (by omega) (by unfold maxLen; omega) (by simp; omega) ?_; intro a5 c5 w5 o5 g5; have hb5 : Below w.heap.size w w5 := (Hb.out.alloc hsz _).grown g5 (by simp; omega) (fun q hq => by obtain ⟨ad, h1, h2⟩ := Option.map_eq_some_iff.1 hq; have := (Ho.out.base_le h1).1; omega); rw [H3.out] at o5)
            go_roundw
            case rel => exact ⟨k + 1, j + 1, a5, c5, by omega, by omega, by omega, by rw [H2.out, List.length_append, Hlen.out]; rfl, by go_num, rfl, o5, hb5⟩
            case measure => simp [intOf]; omega
    · obtain rfl : L = n := by omega
      rw [prAcc_done k L hk hlen] at ho
      have Ho := Lib.hid ho
      have Hb := Lib.hid hb
      clear ho hb hlen
      go_wp2
      go_ret
      exact ⟨a, c, rfl, Ho.out, Hb.out⟩
end Go.Proofs.YtkhcpnmbhbhcgaaDoor

/- Numbers of QUIC: vint.Take and its reference: what they hand back. -/
set_option maxRecDepth 100000
namespace Go.Proofs.YtkhcpnmbhbhcgaaDoor
open Go.RowKit
/-- what Take hands back: the number, what stands behind it, the error -/
def TakePost (w : World) (xs : List UInt8) (e : Ending) (w' : World) : Prop :=
  match takeS xs with
  | none => e = .returned (.tuple #[.int .u64 0, .slice none 0 0, .int .i64 2]) ∧ Below w.heap.size w w'
  | some (n, ys) => ∃ a' c', e = .returned (.tuple #[.int .u64 (n : Int), .slice a' ys.length c', .int .i64 0]) ∧ OW w' w.heap.size 5 1 a' ys.length c' (ys.map B) ∧ Below w.heap.size w w'
theorem takep_nil (w : World) {a : Option Addr} {c : Nat} :
    Calls Tryd.prog 35 #[.slice a 0 c] w (TakePost w []) := by
  go_enter Tryd.func35, Tryd.ntmps35
  go_wp2_with fail
  go_ret3
  exact ⟨rfl, Below.refl _ _⟩
theorem takep_short (w : World) {a : Option Addr} {n c : Nat} (b : UInt8) (bs : List UInt8) (hx : BS w a n c (b :: bs)) (q : Nat) (hq : b.toNat / 64 = q) (h0 : n ≠ 0) (hs : (b :: bs).length < 2 ^ q) :
    Calls Tryd.prog 35 #[.slice a n c] w (TakePost w (b :: bs)) := by
  have hl := hx.len
  have hb := u8_lt b
  have hp : takeS (b :: bs) = none := by rw [takeS_cons, hq, if_pos hs]
  have hq' : (b.toNat : Int) / 64 = q := by omega
  have hq4 : q < 4 := by omega
  have h0' : ((n : Int) == 0) = false := by simp; omega
  rw [hl] at hs
  have Hp := Lib.hid hp
  clear hp hl
  rcases (by omega : q = 0 ∨ q = 1 ∨ q = 2 ∨ q = 3) with rfl | rfl | rfl | rfl
  · omega
  all_goals
    simp only [Nat.reducePow, Int.cast_ofNat_Int] at hs hq'
    clear hq hq4
    go_enter Tryd.func35, Tryd.ntmps35
    go_wp2_with (refine LB_index tB hx b _ _ rfl rfl _ _ rfl rfl (by omega) (by omega) rfl ?_; intro q hq)
    go_ret3
    unfold TakePost
    rw [Hp.out]
    exact ⟨rfl, Below.refl _ _⟩
theorem or_shl8 (N b : Nat) (hN : N < 18014398509481984) (hb : b < 256) : bits .or .u64 ((N : Int) * 256) (b : Int) = ((N * 256 + b : Nat) : Int) := by
  rw [show ((N : Int) * 256) = ((N * 256 : Nat) : Int) by omega, u64_or_nat _ _ (by omega) (by omega), nat_join 8 _ _ (by omega) (by omega)]
theorem takep_ok0 (w : World) {a : Option Addr} {n c : Nat} (b : UInt8) (bs : List UInt8) (hx : BS w a n c (b :: bs)) (hq : b.toNat / 64 = 0) (hs : 1 ≤ n) (hn : n ≤ 140737488355328) :
    Calls Tryd.prog 35 #[.slice a n c] w (TakePost w (b :: bs)) := by
  have hl := hx.len
  have hb := u8_lt b
  have hp : takeS (b :: bs) = some (beNat (bs.take 0) (b.toNat % 64), (b :: bs).drop 1) := by rw [takeS_cons, hq, if_neg (by omega)]
  have hd : ((b :: bs).drop 1).length = n - 1 := by rw [List.length_drop, hl]
  have hq' : (b.toNat : Int) / 64 = 0 := by omega
  have Hp := Lib.hid hp
  have Hd := Lib.hid hd
  clear hp hl hq hd
  have h0' : ((n : Int) == 0) = false := by simp; omega
  go_enter Tryd.func35, Tryd.ntmps35
  go_wp2_with (first | (refine LB_index tB hx b _ _ rfl rfl _ _ rfl rfl (by omega) (by omega) rfl ?_; intro q hq) | (refine LB_slice_lh tB hx 1 1 _ _ _ rfl rfl _ _ _ _ rfl rfl rfl rfl rfl (by decide) (by omega) ?_; intro a1 hx1))
  have Hy : Hid ((List.drop 1 (b :: bs)).take (1 - 1) = bs.take 0) := rfl
  have hx2 : BS w a1 0 (c - 1) (bs.take 0) := hx1
  clear hx1 Hy
  obtain ⟨ys, hys⟩ : ∃ ys, ys = bs.take 0 := ⟨_, rfl⟩
  rw [← hys] at hx2 Hp
  clear hys
  have hyl := hx2.len
  go_loop [6, 36] (fun t i => ∃ k : Nat, k ≤ 0 ∧ i = .int .i64 k ∧ t = .int .u64 ((beNat (ys.take k) (b.toNat % 64) : Nat) : Int)) (fun _ i => 8 - (intOf i).toNat)
  case atStart => exact ⟨0, by omega, rfl, by simp [beNat]⟩
  case round =>
    obtain ⟨k, hk, rfl, rfl⟩ := hrel
    by_cases hlt : k < 0
    · try (exfalso; omega)
      all_goals
        obtain ⟨y, hy⟩ := hx2.get k (by omega)
        have hN := beNat_lt (ys.take k) (b.toNat % 64)
        have Hs := Lib.hid (take_head_snoc ys k (b.toNat % 64) y hy)
        generalize beNat (ys.take k) (b.toNat % 64) = N at *
        have hN2 : N < 18014398509481984 := by
          refine Nat.lt_of_lt_of_le hN ?_
          refine Nat.le_trans (Nat.mul_le_mul (show b.toNat % 64 + 1 ≤ 64 by omega) (Nat.pow_le_pow_right (by omega) (show (ys.take k).length ≤ 6 by rw [List.length_take]; omega))) (by decide)
        have hor := or_shl8 N y.toNat hN2 (u8_lt y)
        have hy8 := u8_lt y
        clear hN
        go_wp2_with (refine LB_index tB hx2 y _ _ rfl rfl _ _ rfl rfl (by omega) (by omega) (by simpa using hy) ?_; intro q hq)
        go_round
        case rel => exact ⟨k + 1, by omega, by go_num, by rw [Hs.out]; go_num⟩
        case measure => simp [intOf]; omega
    · obtain rfl : k = 0 := by omega
      rw [List.take_of_length_le (by omega)]
      go_wp2_with (first | (refine LB_slice_l tB hx 1 _ _ rfl rfl _ _ rfl rfl rfl (by omega) ?_; intro a2 hx3) | (go_at_call 25; refine (clone_any _ hx3 (by omega)).mono ?_; rintro e w' ⟨a', c', rfl, h1, h2⟩))
      go_ret3
      unfold TakePost
      rw [Hp.out]
      exact ⟨a', c', by rw [Hd.out]; rfl, by rw [Hd.out]; exact h1, h2⟩
theorem takep_ok1 (w : World) {a : Option Addr} {n c : Nat} (b : UInt8) (bs : List UInt8) (hx : BS w a n c (b :: bs)) (hq : b.toNat / 64 = 1) (hs : 2 ≤ n) (hn : n ≤ 140737488355328) :
    Calls Tryd.prog 35 #[.slice a n c] w (TakePost w (b :: bs)) := by
  have hl := hx.len
  have hb := u8_lt b
  have hp : takeS (b :: bs) = some (beNat (bs.take 1) (b.toNat % 64), (b :: bs).drop 2) := by rw [takeS_cons, hq, if_neg (by omega)]
  have hd : ((b :: bs).drop 2).length = n - 2 := by rw [List.length_drop, hl]
  have hq' : (b.toNat : Int) / 64 = 1 := by omega
  have Hp := Lib.hid hp
  have Hd := Lib.hid hd
  clear hp hl hq hd
  have h0' : ((n : Int) == 0) = false := by simp; omega
  go_enter Tryd.func35, Tryd.ntmps35
  go_wp2_with (first | (refine LB_index tB hx b _ _ rfl rfl _ _ rfl rfl (by omega) (by omega) rfl ?_; intro q hq) | (refine LB_slice_lh tB hx 1 2 _ _ _ rfl rfl _ _ _ _ rfl rfl rfl rfl rfl (by decide) (by omega) ?_; intro a1 hx1))
  have Hy : Hid ((List.drop 1 (b :: bs)).take (2 - 1) = bs.take 1) := rfl
  have hx2 : BS w a1 1 (c - 1) (bs.take 1) := hx1
  clear hx1 Hy
  obtain ⟨ys, hys⟩ : ∃ ys, ys = bs.take 1 := ⟨_, rfl⟩
  rw [← hys] at hx2 Hp
  clear hys
  have hyl := hx2.len
  go_loop [6, 36] (fun t i => ∃ k : Nat, k ≤ 1 ∧ i = .int .i64 k ∧ t = .int .u64 ((beNat (ys.take k) (b.toNat % 64) : Nat) : Int)) (fun _ i => 8 - (intOf i).toNat)
  case atStart => exact ⟨0, by omega, rfl, by simp [beNat]⟩
  case round =>
    obtain ⟨k, hk, rfl, rfl⟩ := hrel
    by_cases hlt : k < 1
    · try (exfalso; omega)
      all_goals
        obtain ⟨y, hy⟩ := hx2.get k (by omega)
        have hN := beNat_lt (ys.take k) (b.toNat % 64)
        have Hs := Lib.hid (take_head_snoc ys k (b.toNat % 64) y hy)
        generalize beNat (ys.take k) (b.toNat % 64) = N at *
        have hN2 : N < 18014398509481984 := by
          refine Nat.lt_of_lt_of_le hN ?_
          refine Nat.le_trans (Nat.mul_le_mul (show b.toNat % 64 + 1 ≤ 64 by omega) (Nat.pow_le_pow_right (by omega) (show (ys.take k).length ≤ 6 by rw [List.length_take]; omega))) (by decide)
        have hor := or_shl8 N y.toNat hN2 (u8_lt y)
        have hy8 := u8_lt y
        clear hN
        go_wp2_with (refine LB_index tB hx2 y _ _ rfl rfl _ _ rfl rfl (by omega) (by omega) (by simpa using hy) ?_; intro q hq)
        go_round
        case rel => exact ⟨k + 1, by omega, by go_num, by rw [Hs.out]; go_num⟩
        case measure => simp [intOf]; omega
    · obtain rfl : k = 1 := by omega
      rw [List.take_of_length_le (by omega)]
      go_wp2_with (first | (refine LB_slice_l tB hx 2 _ _ rfl rfl _ _ rfl rfl rfl (by omega) ?_; intro a2 hx3) | (go_at_call 25; refine (clone_any _ hx3 (by omega)).mono ?_; rintro e w' ⟨a', c', rfl, h1, h2⟩))
      go_ret3
      unfold TakePost
      rw [Hp.out]
      exact ⟨a', c', by rw [Hd.out]; rfl, by rw [Hd.out]; exact h1, h2⟩
theorem takep_ok2 (w : World) {a : Option Addr} {n c : Nat} (b : UInt8) (bs : List UInt8) (hx : BS w a n c (b :: bs)) (hq : b.toNat / 64 = 2) (hs : 4 ≤ n) (hn : n ≤ 140737488355328) :
    Calls Tryd.prog 35 #[.slice a n c] w (TakePost w (b :: bs)) := by
  have hl := hx.len
  have hb := u8_lt b
  have hp : takeS (b :: bs) = some (beNat (bs.take 3) (b.toNat % 64), (b :: bs).drop 4) := by rw [takeS_cons, hq, if_neg (by omega)]
  have hd : ((b :: bs).drop 4).length = n - 4 := by rw [List.length_drop, hl]
  have hq' : (b.toNat : Int) / 64 = 2 := by omega
  have Hp := Lib.hid hp
  have Hd := Lib.hid hd
  clear hp hl hq hd
  have h0' : ((n : Int) == 0) = false := by simp; omega
  go_enter Tryd.func35, Tryd.ntmps35
  go_wp2_with (first | (refine LB_index tB hx b _ _ rfl rfl _ _ rfl rfl (by omega) (by omega) rfl ?_; intro q hq) | (refine LB_slice_lh tB hx 1 4 _ _ _ rfl rfl _ _ _ _ rfl rfl rfl rfl rfl (by decide) (by omega) ?_; intro a1 hx1))
  have Hy : Hid ((List.drop 1 (b :: bs)).take (4 - 1) = bs.take 3) := rfl
  have hx2 : BS w a1 3 (c - 1) (bs.take 3) := hx1
  clear hx1 Hy
  obtain ⟨ys, hys⟩ : ∃ ys, ys = bs.take 3 := ⟨_, rfl⟩
  rw [← hys] at hx2 Hp
  clear hys
  have hyl := hx2.len
  go_loop [6, 36] (fun t i => ∃ k : Nat, k ≤ 3 ∧ i = .int .i64 k ∧ t = .int .u64 ((beNat (ys.take k) (b.toNat % 64) : Nat) : Int)) (fun _ i => 8 - (intOf i).toNat)
  case atStart => exact ⟨0, by omega, rfl, by simp [beNat]⟩
  case round =>
    obtain ⟨k, hk, rfl, rfl⟩ := hrel
    by_cases hlt : k < 3
    · try (exfalso; omega)
      all_goals
        obtain ⟨y, hy⟩ := hx2.get k (by omega)
        have hN := beNat_lt (ys.take k) (b.toNat % 64)
        have Hs := Lib.hid (take_head_snoc ys k (b.toNat % 64) y hy)
        generalize beNat (ys.take k) (b.toNat % 64) = N at *
        have hN2 : N < 18014398509481984 := by
          refine Nat.lt_of_lt_of_le hN ?_
          refine Nat.le_trans (Nat.mul_le_mul (show b.toNat % 64 + 1 ≤ 64 by omega) (Nat.pow_le_pow_right (by omega) (show (ys.take k).length ≤ 6 by rw [List.length_take]; omega))) (by decide)
        have hor := or_shl8 N y.toNat hN2 (u8_lt y)
        have hy8 := u8_lt y
        clear hN
        go_wp2_with (refine LB_index tB hx2 y _ _ rfl rfl _ _ rfl rfl (by omega) (by omega) (by simpa using hy) ?_; intro q hq)
        go_round
        case rel => exact ⟨k + 1, by omega, by go_num, by rw [Hs.out]; go_num⟩
        case measure => simp [intOf]; omega
    · obtain rfl : k = 3 := by omega
      rw [List.take_of_length_le (by omega)]
      go_wp2_with (first | (refine LB_slice_l tB hx 4 _ _ rfl rfl _ _ rfl rfl rfl (by omega) ?_; intro a2 hx3) | (go_at_call 25; refine (clone_any _ hx3 (by omega)).mono ?_; rintro e w' ⟨a', c', rfl, h1, h2⟩))
      go_ret3
      unfold TakePost
      rw [Hp.out]
      exact ⟨a', c', by rw [Hd.out]; rfl, by rw [Hd.out]; exact h1, h2⟩
theorem takep_ok3 (w : World) {a : Option Addr} {n c : Nat} (b : UInt8) (bs : List UInt8) (hx : BS w a n c (b :: bs)) (hq : b.toNat / 64 = 3) (hs : 8 ≤ n) (hn : n ≤ 140737488355328) :
    Calls Tryd.prog 35 #[.slice a n c] w (TakePost w (b :: bs)) := by
  have hl := hx.len
  have hb := u8_lt b
  have hp : takeS (b :: bs) = some (beNat (bs.take 7) (b.toNat % 64), (b :: bs).drop 8) := by rw [takeS_cons, hq, if_neg (by omega)]
  have hd : ((b :: bs).drop 8).length = n - 8 := by rw [List.length_drop, hl]
  have hq' : (b.toNat : Int) / 64 = 3 := by omega
  have Hp := Lib.hid hp
  have Hd := Lib.hid hd
  clear hp hl hq hd
  have h0' : ((n : Int) == 0) = false := by simp; omega
  go_enter Tryd.func35, Tryd.ntmps35
  go_wp2_with (first | (refine LB_index tB hx b _ _ rfl rfl _ _ rfl rfl (by omega) (by omega) rfl ?_; intro q hq) | (refine LB_slice_lh tB hx 1 8 _ _ _ rfl rfl _ _ _ _ rfl rfl rfl rfl rfl (by decide) (by omega) ?_; intro a1 hx1))
  have Hy : Hid ((List.drop 1 (b :: bs)).take (8 - 1) = bs.take 7) := rfl
  have hx2 : BS w a1 7 (c - 1) (bs.take 7) := hx1
  clear hx1 Hy
  obtain ⟨ys, hys⟩ : ∃ ys, ys = bs.take 7 := ⟨_, rfl⟩
  rw [← hys] at hx2 Hp
  clear hys
  have hyl := hx2.len
  go_loop [6, 36] (fun t i => ∃ k : Nat, k ≤ 7 ∧ i = .int .i64 k ∧ t = .int .u64 ((beNat (ys.take k) (b.toNat % 64) : Nat) : Int)) (fun _ i => 8 - (intOf i).toNat)
  case atStart => exact ⟨0, by omega, rfl, by simp [beNat]⟩
  case round =>
    obtain ⟨k, hk, rfl, rfl⟩ := hrel
    by_cases hlt : k < 7
    · try (exfalso; omega)
      all_goals
        obtain ⟨y, hy⟩ := hx2.get k (by omega)
        have hN := beNat_lt (ys.take k) (b.toNat % 64)
        have Hs := Lib.hid (take_head_snoc ys k (b.toNat % 64) y hy)
        generalize beNat (ys.take k) (b.toNat % 64) = N at *
        have hN2 : N < 18014398509481984 := by
          refine Nat.lt_of_lt_of_le hN ?_
          refine Nat.le_trans (Nat.mul_le_mul (show b.toNat % 64 + 1 ≤ 64 by omega) (Nat.pow_le_pow_right (by omega) (show (ys.take k).length ≤ 6 by rw [List.length_take]; omega))) (by decide)
        have hor := or_shl8 N y.toNat hN2 (u8_lt y)
        have hy8 := u8_lt y
        clear hN
        go_wp2_with (refine LB_index tB hx2 y _ _ rfl rfl _ _ rfl rfl (by omega) (by omega) (by simpa using hy) ?_; intro q hq)
        go_round
        case rel => exact ⟨k + 1, by omega, by go_num, by rw [Hs.out]; go_num⟩
        case measure => simp [intOf]; omega
    · obtain rfl : k = 7 := by omega
      rw [List.take_of_length_le (by omega)]
      go_wp2_with (first | (refine LB_slice_l tB hx 8 _ _ rfl rfl _ _ rfl rfl rfl (by omega) ?_; intro a2 hx3) | (go_at_call 25; refine (clone_any _ hx3 (by omega)).mono ?_; rintro e w' ⟨a', c', rfl, h1, h2⟩))
      go_ret3
      unfold TakePost
      rw [Hp.out]
      exact ⟨a', c', by rw [Hd.out]; rfl, by rw [Hd.out]; exact h1, h2⟩
theorem takep_any (w : World) {a : Option Addr} {n c : Nat} (xs : List UInt8) (hx : BS w a n c xs) (hn : n ≤ 140737488355328) :
    Calls Tryd.prog 35 #[.slice a n c] w (TakePost w xs) := by
  have hl := hx.len
  cases xs with
  | nil => obtain rfl : n = 0 := by simpa using hl.symm
           exact takep_nil w
  | cons b bs =>
    have hb := u8_lt b
    have hne : n ≠ 0 := by rintro rfl; simp at hl
    rcases (by omega : b.toNat / 64 = 0 ∨ b.toNat / 64 = 1 ∨ b.toNat / 64 = 2 ∨ b.toNat / 64 = 3) with h | h | h | h
    · by_cases hs : 1 ≤ n
      · exact takep_ok0 w b bs hx h hs hn
      · exact takep_short w b bs hx 0 h hne (by rw [hl]; omega)
    · by_cases hs : 2 ≤ n
      · exact takep_ok1 w b bs hx h hs hn
      · exact takep_short w b bs hx 1 h hne (by rw [hl]; omega)
    · by_cases hs : 4 ≤ n
      · exact takep_ok2 w b bs hx h hs hn
      · exact takep_short w b bs hx 2 h hne (by rw [hl]; omega)
    · by_cases hs : 8 ≤ n
      · exact takep_ok3 w b bs hx h hs hn
      · exact takep_short w b bs hx 3 h hne (by rw [hl]; omega)
end Go.Proofs.YtkhcpnmbhbhcgaaDoor
