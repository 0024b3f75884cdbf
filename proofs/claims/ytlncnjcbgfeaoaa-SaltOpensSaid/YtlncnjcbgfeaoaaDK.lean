/- the reference's mark. -/
import Derived.Test.YtlncnjcbgfeaoaaDG
import Derived.Test.YtlncnjcbgfeaoaaDI
import Derived.Test.YtlncnjcbgfeaoaaDD
import Derived.Test.YtlncnjcbgfeaoaaCG
import Derived.Test.YtlncnjcbgfeaoaaM7
set_option maxRecDepth 100000
set_option linter.unusedVariables false
namespace Go.Proofs.Ytlncnjcbgfeaoaa
open Go.RowKit
theorem padN_again (m n : Nat) : padN (m + padN m + n) = padN n := by unfold padN; omega
theorem le8_take (v i : Nat) (hi : i < 8) : (le8 v).take (i + 1) = (le8 v).take i ++ [UInt8.ofNat (v / 2 ^ (8 * i))] := by
  rw [List.take_add_one]
  unfold le8
  rw [List.getElem?_map, List.getElem?_range hi]; rfl
/-- what stands ahead of the lengths, and so many of them -/
def mpre (p beside : List UInt8) : List UInt8 := beside ++ List.replicate (padN beside.length) 0 ++ p ++ List.replicate (padN p.length) 0
def mlen (p beside : List UInt8) : Nat → Nat
  | 0 => beside.length
  | _ => p.length
def mlens (p beside : List UInt8) (j : Nat) : List UInt8 := mpre p beside ++ (match j with | 0 => [] | 1 => le8 beside.length | _ => le8 beside.length ++ le8 p.length)
theorem mlens_msg (p beside : List UInt8) : mlens p beside 2 = msgS p beside := by simp [mlens, mpre, msgS]
theorem mlens_succ (p beside : List UInt8) (j : Nat) (hj : j < 2) : mlens p beside (j + 1) = mlens p beside j ++ le8 (mlen p beside j) := by
  have h : j = 0 ∨ j = 1 := by omega
  rcases h with rfl | rfl <;> simp [mlens, mlen]
theorem mlens_len (p beside : List UInt8) (j : Nat) (hj : j ≤ 2) : (mlens p beside j).length = (mpre p beside).length + 8 * j := by
  have h : j = 0 ∨ j = 1 ∨ j = 2 := by omega
  rcases h with rfl | rfl | rfl <;> simp [mlens, le8_len]
structure MQ (w W5 wr : World) (gi : Nat) (p bs : List UInt8) (a : Option Addr) (n c : Nat) (xs : List UInt8) : Prop where
  own : OW wr w.heap.size 5 1 a n c (xs.map B)
  bl : Below w.heap.size w wr
  nums : AV wr gi 3 [.int .i64 (bs.length : Int), .int .i64 (p.length : Int)]
  ne : ∀ ad, a = some ad → ad.block ≠ gi
theorem MQ.app {w W5 wr w6 : World} {gi : Nat} {p bs : List UInt8} {a a6 : Option Addr} {n c c6 : Nat} {xs : List UInt8} {v : UInt8} (h : MQ w W5 wr gi p bs a n c xs) {o : Obj} (o6 : OW w6 w.heap.size 5 1 a6 (n + 1) c6 (xs.map B ++ [B v]))
    (g6 : (wr.alloc o).grownBy w6 (a.map (·.block))) (n6 : ∀ ad, a6 = some ad → a = some ad ∨ (wr.alloc o).heap.size ≤ ad.block) : MQ w W5 w6 gi p bs a6 (n + 1) c6 (xs ++ [v]) := by
  have hz := h.bl.size
  have lgi := h.nums.lt
  refine ⟨by rw [List.map_append]; exact o6, (h.bl.alloc hz o).grown g6 (by simp; omega) (row_le (fun ad ha => (h.own.base_le ha).1) (Nat.le_refl _)), ?_, fun ad ha => ?_⟩
  · have h1 : AV (wr.alloc o) gi 3 _ := h.nums.grown (World.grownBy_alloc wr o none) (by simp)
    refine h1.grown g6 ?_
    cases a with
    | none => simp
    | some ad => have := h.ne ad rfl; simp; exact fun e => this e.symm
  · rcases n6 ad ha with h1 | h1
    · exact h.ne ad h1
    · simp at h1; omega
set_option maxHeartbeats 4000000 in
theorem rmark_any (w : World) {a b o u : Option Addr} {n c m e l f r t : Nat} {key nonce p bs d : List UInt8} (hk : BS w a n c key) (hn : BS w b m e nonce) (hp : BS w o l f p) (hb : BS w u r t bs) (hkl : key.length = 32) (hnl : nonce.length = 12) (hl : l + r ≤ 549755813888) (hD : MK key nonce p bs d) :
    Calls Try.prog 33 #[.slice a n c, .slice b m e, .slice o l f, .slice u r t] w fun x w' => ∃ a c, x = .returned (.slice a 16 c) ∧ OW w' w.heap.size 5 1 a 16 c (d.map B) ∧ Below w.heap.size w w' := by
  have hpl := BS.len hp
  have hbl := BS.len hb
  have HK := Lib.hid hk
  have HNn := Lib.hid hn
  have HP := Lib.hid hp
  have hpad1 := padN_lt r
  have hpad2 := padN_lt l
  have hpad3 := padN_again r l
  have hcp := copyP w hb (by omega)
  have Hcp := Lib.hid hcp
  clear hk hn hp hcp hb
  go_enter Try.func33, Try.ntmps33
  go_upto_region 2 with (first
    | (go_at_call 11; refine Hcp.out.mono ?_; rintro x w1 ⟨a1, c1, rfl, o1, B1⟩)
    | (go_at_call 42; refine (rfill_any w3 w.heap.size o3 hz3 (by omega)).mono ?_; rintro x w4 ⟨a4, c4, rfl, o4, B4⟩)
    | (go_at_call 42; refine (rfill_any w1 w.heap.size o1 B1.size (by omega)).mono ?_; rintro x w2 ⟨a2, c2, rfl, o2, B2⟩; have hp2 := RS.below HP.out (B1.trans B2) (Nat.le_refl _); have hz2 := Nat.le_trans B1.size B2.size)
    | (at_builtin; refine L_append tB o2 hp2 _ _ rfl rfl rfl rfl (by omega) (by unfold maxLen; omega) hz2 ?_; intro a3 c3 w3 o3' g3; have hz3 : w.heap.size ≤ w3.heap.size := Nat.le_trans hz2 g3.size; have o3 : OW w3 w.heap.size 5 1 a3 (r + padN r + l) c3 ((bs ++ List.replicate (padN r) 0 ++ p).map B) := by rw [List.map_append]; exact o3'))
  have hb3 : Below w.heap.size w w3 := ((B1.trans B2).grown g3 hz2 (row_le (fun ad ha => (o2.base_le ha).1) (Nat.le_refl _)))
  have hb4 := hb3.trans B4
  obtain ⟨K, hK⟩ : ∃ K, r + padN r + l + padN l = K := ⟨_, rfl⟩
  have hpre : bs ++ List.replicate (padN r) 0 ++ p ++ List.replicate (padN (r + padN r + l)) 0 = mlens p bs 0 := by
    rw [hpad3]; simp [mlens, mpre, hpl, hbl]
  rw [hpre, hpad3, hK] at o4
  rw [hK]
  have hKl : (mpre p bs).length = K := by rw [← hK]; simp [mpre, hpl, hbl]; omega
  have hKm : K ≤ 549755813950 := by rw [← hK]; omega
  have O4 := Lib.hid o4
  have HB4 := Lib.hid hb4
  have hs2 := mlens_succ p bs
  have Hs2 := Lib.hid hs2
  have HKl := Lib.hid hKl
  have hm0 : mlen p bs 0 = r := hbl
  have hm1 : mlen p bs 1 = l := hpl
  have Hm0 := EQ1.mk hm0
  have Hm1 := EQ1.mk hm1
  clear o4 hb4 hb3 hK hpre hKl hs2 hm0 hm1 o3 o3' g3 o2 hp2 B2 B1 o1 B4 hz2 hz3 Hcp hpad3
  go_upto_region 3 with (fail)
  have hI : AV (w4.alloc (.cells #[.int .i64 (r : Int), .int .i64 (l : Int)] 3)) w4.heap.size 3 [.int .i64 (r : Int), .int .i64 (l : Int)] := heap_alloc_new w4 _
  have hz4 := HB4.out.size
  have hbI := HB4.out.alloc hz4 (.cells #[.int .i64 (r : Int), .int .i64 (l : Int)] 3)
  have oI := O4.out.alloc (.cells #[.int .i64 (r : Int), .int .i64 (l : Int)] 3)
  obtain ⟨gi, hgi⟩ : ∃ gi, w4.heap.size = gi := ⟨_, rfl⟩
  have hai : ∀ ad, a4 = some ad → ad.block < gi := fun ad ha => by rw [← hgi]; exact (O4.out.base_le ha).2
  rw [hgi] at hI ⊢
  generalize (World.alloc _ _) = W5 at *
  have HI := Lib.hid hI
  have HBI := Lib.hid hbI
  have OI := Lib.hid oI
  have Hai := Lib.hid hai
  have lgi := hI.lt
  clear hI hbI oI hai hgi
  go_loopw [9, 24] (fun s9 s24 wr => ∃ (j : Nat) (a : Option Addr) (c : Nat), j ≤ 2 ∧ s24 = .int .i64 (j : Int) ∧ s9 = .slice a (K + 8 * j) c ∧ MQ w W5 wr gi p bs a (K + 8 * j) c (mlens p bs j)) (fun _ s24 _ => 2 - (intOf s24).toNat)
  case atStart => exact ⟨0, _, _, by omega, rfl, rfl, ⟨OI.out, HBI.out, by rw [hbl, hpl]; exact HI.out, fun ad ha => Nat.ne_of_lt (Hai.out ad ha)⟩⟩
  case round =>
    obtain ⟨j, a', c', hj, rfl, rfl, hq⟩ := hrel
    by_cases hlt : j < 2
    · obtain ⟨V, hV⟩ : ∃ V, mlen p bs j = V := ⟨_, rfl⟩
      have hj2 : j = 0 ∨ j = 1 := by omega
      have hVm : V ≤ 549755813888 := by
        rcases hj2 with rfl | rfl
        · rw [← hV, Hm0.h]; omega
        · rw [← hV, Hm1.h]; omega
      have q0 : wr.cell? ⟨gi, j, none⟩ = some (.int .i64 (V : Int)) := hq.nums.cell j _ (by rcases hj2 with rfl | rfl <;> rw [← hV] <;> rfl)
      obtain ⟨C, hC⟩ : ∃ C, mlens p bs j = C := ⟨_, rfl⟩
      have hnx : EB (mlens p bs (j + 1)) (C ++ (le8 V).take 8) := ⟨by rw [Hs2.out j hlt, hC, hV, List.take_of_length_le (by rw [le8_len]; exact Nat.le_refl _)]⟩
      obtain ⟨K2, hK2⟩ : ∃ K2, K + 8 * j = K2 := ⟨_, rfl⟩
      have hK2m : K2 ≤ 1099511627800 := by omega
      rw [hC, hK2] at hq
      rw [hK2]
      have HQ := Lib.hid hq
      have HK2 := Lib.hid hK2
      have lgw := hq.nums.lt
      clear hq hC hV hK2 hj2
      go_upto_region 6 with (fail)
      clear q0
      try rw [show decide ((j : Int) < 2) = true from decide_eq_true (by omega)]
      go_loopw [9, 11, 28] (fun s9 s11 s28 wr => ∃ (i : Nat) (a : Option Addr) (c : Nat), i ≤ 8 ∧ s28 = .int .i64 (i : Int) ∧ s11 = .int .i64 ((V / 256 ^ i : Nat) : Int) ∧ s9 = .slice a (K2 + i) c ∧ MQ w W5 wr gi p bs a (K2 + i) c (C ++ (le8 V).take i)) (fun _ _ s28 _ => 8 - (intOf s28).toNat)
      case atStart => exact ⟨0, _, _, by omega, rfl, by simp, rfl, by simpa using HQ.out⟩
      case round =>
        obtain ⟨i, a', c', hi, rfl, rfl, rfl, hq⟩ := hrel
        clear HQ
        obtain ⟨m1, hm1⟩ : ∃ m1, K2 + i = m1 := ⟨_, rfl⟩
        rw [hm1] at hq ⊢
        have hlen := hq.own.rs.le
        have hsz := hq.bl.size
        by_cases hlt8 : i < 8
        · have htk := le8_take V i hlt8
          rw [show V / 2 ^ (8 * i) = V / 256 ^ i by rw [Nat.pow_mul]] at htk
          have hnu : V / 256 ^ (i + 1) = V / 256 ^ i / 256 := by rw [Nat.pow_succ, Nat.div_div_eq_div_mul]
          have hule : V / 256 ^ i ≤ V := Nat.div_le_self _ _
          obtain ⟨U1, hU1⟩ : ∃ U1, V / 256 ^ i = U1 := ⟨_, rfl⟩
          rw [hU1] at htk hnu hule ⊢
          obtain ⟨U2, hU2⟩ : ∃ U2, V / 256 ^ (i + 1) = U2 := ⟨_, rfl⟩
          rw [hU2] at hnu
          obtain ⟨y, hy⟩ : ∃ y, U1 % 256 = y := ⟨_, rfl⟩
          have hyl : y < 256 := by omega
          have hym : (U1 : Int).tmod 256 = (y : Int) := by rw [Int.tmod_eq_emod_of_nonneg (by omega)]; omega
          have hyd : (U1 : Int).tdiv 256 = (U2 : Int) := by rw [Int.tdiv_eq_ediv_of_nonneg (by omega)]; omega
          have hBy : B (UInt8.ofNat U1) = .int .u8 (y : Int) := by simp only [B, UInt8.toNat_ofNat']; rw [show U1 % 2 ^ 8 = y from hy]
          have HBy := Lib.hid hBy
          have Htk := EB.mk htk
          have HU2 := Lib.hid hU2
          have HQ := Lib.hid hq
          have Hm := Lib.hid hm1
          have hm1l : m1 ≤ 1099511627900 := by omega
          have hwy : IntKind.u8.wrap (y : Int) = (y : Int) := by rw [IntKind.wrap_u8']; omega
          have hU2l : U2 ≤ 549755813888 := by omega
          clear hq htk hU1 hU2 hy hBy hnu hm1
          go_wp2_with (at_builtin; refine L_append_at tB (OW.alloc HQ.out.own _) (RS_one _ _ _ rfl) _ _ rfl rfl rfl rfl (by omega) (by unfold maxLen; omega) (by simp; omega) ?_; intro a6 c6 w6 o6 g6 n6)
          rw [← HBy.out] at o6
          have HN := Lib.hid (HQ.out.app o6 g6 n6)
          rw [List.append_assoc, ← Htk.h] at HN
          clear o6 g6 n6
          go_roundw
          case rel => exact ⟨i + 1, _, _, by omega, by go_num, by rw [HU2.out], by rw [← Nat.add_assoc, Hm.out], by rw [← Nat.add_assoc, Hm.out]; exact HN.out⟩
          case measure => simp [intOf]; omega
        · have hi8 : i = 8 := by omega
          subst hi8
          rw [← hnx.h] at hq
          have hk3 : m1 = K + 8 * (j + 1) := by have := HK2.out; omega
          rw [hk3] at hq ⊢
          have HQ := Lib.hid hq
          clear hq hk3 hm1
          go_wp2
          go_roundw
          case rel => exact ⟨j + 1, _, _, by omega, by go_num, rfl, HQ.out⟩
          case measure => simp [intOf]; omega
    · have hj2 : j = 2 := by omega
      subst hj2
      rw [mlens_msg] at hq
      obtain ⟨bk, hbk⟩ := ST_ex key nonce 0
      have hbkl := hbk.len
      have hres := hD.h
      unfold markS at hres
      rw [show blkS key nonce 0 = bk from hbk.h] at hres
      have htg : TG (bk.take 32) (msgS p bs) d := ⟨hres, hD.len⟩
      obtain ⟨M, hM⟩ : ∃ M, msgS p bs = M := ⟨_, rfl⟩
      rw [hM] at hq htg
      have Htg := Lib.hid htg
      have HQ := Lib.hid hq
      have Hblk := Lib.hid (rblock_any wr (RS.below HK.out hq.bl (Nat.le_refl _)) (RS.below HNn.out hq.bl (Nat.le_refl _)) hkl hnl 0 (by omega) hbk)
      have hKm2 : K + 8 * 2 ≤ 1099511627776 := by omega
      have hzw := hq.bl.size
      clear hq htg hres hbk hM hD
      go_wp2_with (first
        | (go_at_call 36; refine Hblk.out.mono ?_; rintro x w6 ⟨a6, c6, rfl, o6, B6⟩)
        | (refine LB_slice_h tB o6.rs 32 _ _ rfl rfl _ _ rfl rfl rfl (by omega) ?_; intro h32)
        | (go_at_call 14; refine (rtag_any _ h32 (RS.below HQ.out.own.rs B6 (Nat.le_refl _)) (Nat.le_refl _) hKm2 Htg.out).mono ?_; rintro x w7 ⟨a7, c7, rfl, o7, B7⟩))
      have hb6 := HQ.out.bl.trans (B6.mono hzw)
      have hb7 := hb6.trans (B7.mono hb6.size)
      go_ret
      exact ⟨_, _, rfl, o7.mono hb6.size, hb7⟩
end Go.Proofs.Ytlncnjcbgfeaoaa
