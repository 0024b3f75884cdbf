/- salt.mix: bytes, and the stream. -/
import Derived.Test.YtlncnjcbgfeaoaaC5
import Derived.Test.YtlncnjcbgfeaoaaCB
import Derived.Deep.RegionWith
set_option maxRecDepth 100000
set_option linter.unusedVariables false
namespace Go.Proofs.Ytlncnjcbgfeaoaa
open Go.RowKit
/-- the first j bytes turned by the stream -/
def mixJ (p s : List UInt8) (j : Nat) : List UInt8 := (List.range p.length).map fun i => if i < j then p.getD i 0 ^^^ s.getD i 0 else p.getD i 0
theorem mixJ_len (p s : List UInt8) (j : Nat) : (mixJ p s j).length = p.length := by simp [mixJ]
theorem mixJ_get (p s : List UInt8) (j i : Nat) (hi : i < p.length) : (mixJ p s j)[i]? = some (if i < j then p.getD i 0 ^^^ s.getD i 0 else p.getD i 0) := by
  unfold mixJ; rw [List.getElem?_map, List.getElem?_range hi]; rfl
theorem mixJ_zero (p s : List UInt8) : mixJ p s 0 = p := by
  apply List.ext_getElem?
  intro i
  rcases Nat.lt_or_ge i p.length with hi | hi
  · rw [mixJ_get _ _ _ _ hi, if_neg (by omega), List.getD_eq_getElem?_getD, List.getElem?_eq_getElem hi]; rfl
  · rw [List.getElem?_eq_none (by rw [mixJ_len]; exact hi), List.getElem?_eq_none hi]
theorem mixJ_set (p s : List UInt8) (j : Nat) (hj : j < p.length) : (mixJ p s j).set j (p.getD j 0 ^^^ s.getD j 0) = mixJ p s (j + 1) := by
  apply List.ext_getElem?
  intro i
  rcases Nat.lt_or_ge i p.length with hi | hi
  · by_cases h : i = j
    · subst h; rw [List.getElem?_set_self (by rw [mixJ_len]; exact hi), mixJ_get _ _ _ _ hi, if_pos (by omega)]
    · rw [List.getElem?_set_ne (fun e => h e.symm), mixJ_get _ _ _ _ hi, mixJ_get _ _ _ _ hi]
      by_cases h2 : i < j
      · rw [if_pos h2, if_pos (by omega)]
      · rw [if_neg h2, if_neg (by omega)]
  · rw [List.getElem?_eq_none (by rw [List.length_set, mixJ_len]; exact hi), List.getElem?_eq_none (by rw [mixJ_len]; exact hi)]
theorem mixJ_sat (p s : List UInt8) (j k : Nat) (h : j = k ∨ (p.length ≤ j ∧ p.length ≤ k)) : mixJ p s j = mixJ p s k := by
  rcases h with rfl | ⟨h1, h2⟩
  · rfl
  · unfold mixJ
    apply List.map_congr_left
    intro i hi
    have := List.mem_range.1 hi
    rw [if_pos (by omega), if_pos (by omega)]
/-- bytes, and the stream from its second block on -/
def mixS (key nonce p : List UInt8) : List UInt8 := mixJ p (strS key nonce 1 ((p.length + 63) / 64)) p.length
theorem strS_take (key nonce : List UInt8) (fr k : Nat) : ∀ N : Nat, k ≤ N → (strS key nonce fr N).take (64 * k) = strS key nonce fr k := by
  intro N
  induction N with
  | zero =>
    intro h
    obtain rfl : k = 0 := by omega
    rfl
  | succ N ih =>
    intro h
    rcases Nat.lt_or_ge N k with h2 | h2
    · obtain rfl : k = N + 1 := by omega
      rw [List.take_of_length_le (by rw [strS_len]; omega)]
    · rw [strS, List.take_append_of_le_length (by rw [strS_len]; omega)]
      exact ih h2
/-- a byte of the stream is one of its block's -/
theorem strS_get (key nonce : List UInt8) (fr N k i : Nat) (hk : k < N) (hi : i < 64) : (strS key nonce fr N)[64 * k + i]? = (blkS key nonce ((fr + k) % 4294967296))[i]? := by
  have h := strS_take key nonce fr (k + 1) N (by omega)
  have h2 : (strS key nonce fr N)[64 * k + i]? = (strS key nonce fr (k + 1))[64 * k + i]? := by
    rw [← h, List.getElem?_take, if_pos (by omega)]
  rw [h2, strS, List.getElem?_append_right (by rw [strS_len]; omega), strS_len]
  congr 1; omega
structure MX (key nonce p d : List UInt8) : Prop where
  h : mixS key nonce p = d
  len : d.length = p.length
theorem MX_ex (key nonce p : List UInt8) : ∃ d, MX key nonce p d := ⟨_, rfl, mixJ_len _ _ _⟩
set_option maxHeartbeats 4000000 in
theorem mix_any (w : World) {a : Option Addr} {n c : Nat} {key nonce p d : List UInt8} (hkl : key.length = 32) (hnl : nonce.length = 12) (hp : BS w a n c p) (hn : n ≤ 1099511627776) (hD : MX key nonce p d) :
    Calls Try.prog 29 #[.agg (key.map B).toArray, .agg (nonce.map B).toArray, .slice a n c] w fun e w' => ∃ a' c', e = .returned (.slice a' n c') ∧ OW w' w.heap.size 5 1 a' n c' (d.map B) ∧ Below w.heap.size w w' := by
  have hz1 : (w.alloc (.cells (key.map B).toArray 22)).heap.size = w.heap.size + 1 := by simp
  have hA := (AB_box w 22 key).al (.cells (nonce.map B).toArray 32)
  have hM := AB_box (w.alloc (.cells (key.map B).toArray 22)) 32 nonce
  have hb : Below w.heap.size w _ := (below_alloc w (.cells (key.map B).toArray 22)).alloc (by simp) (.cells (nonce.map B).toArray 32)
  have hp1 := (RS.alloc hp (.cells (key.map B).toArray 22)).alloc (.cells (nonce.map B).toArray 32)
  rw [hz1] at hM
  have hpl := BS.len hp
  have hi32 := Lib.hid (show (Try.prog.info? 22).map (·.size) = some (key.map B).length by rw [List.length_map, hkl]; kernel_rfl)
  have hi12 := Lib.hid (show (Try.prog.info? 32).map (·.size) = some (nonce.map B).length by rw [List.length_map, hnl]; kernel_rfl)
  obtain ⟨N, hN⟩ : ∃ N, (p.length + 63) / 64 = N := ⟨_, rfl⟩
  have hres := hD.h
  unfold mixS at hres
  rw [hN] at hres
  have hsg := fun k i (hk : k < N) (hi : i < 64) => strS_get key nonce 1 N k i hk hi
  obtain ⟨S, hS⟩ : ∃ S, strS key nonce 1 N = S := ⟨_, rfl⟩
  simp only [hS] at hsg
  rw [hS] at hres
  have Hsg := Lib.hid hsg
  have Hres := EB.mk hres
  clear hz1 hS hres hsg
  go_enter Try.func29, Try.ntmps29
  go_upto_region 1 with (fail)
  generalize (World.alloc _ _) = W1 at *
  have l0 := hA.lt
  have l1 := hM.lt
  have hbs := hb.size
  go_upto_region 2 with (go_at_call 35; refine (clone_any _ hp1 (by omega)).mono ?_; rintro e w2 ⟨a2, c2, rfl, o2, B2⟩)
  have hA2 := hA.bl B2 l0
  have hM2 := hM.bl B2 l1
  have hb2 := hb.trans (B2.mono hbs)
  have z2 := B2.size
  have HA2 := Lib.hid hA2
  have HM2 := Lib.hid hM2
  have HB2 := Lib.hid hb2
  have ho2 : OW w2 W1.heap.size 5 1 a2 n c2 ((mixJ p S (64 * 0)).map B) := by rw [mixJ_zero]; exact o2
  clear hA hM hb hp1 hA2 hM2 hb2 o2 B2
  go_wp2
  go_loopw [8] (fun s8 wr => ∃ k : Nat, 64 * k < n + 64 ∧ s8 = .int .i64 ((64 * k : Nat) : Int) ∧ OW wr W1.heap.size 5 1 a2 n c2 ((mixJ p S (64 * k)).map B) ∧ w2.grownBy wr (a2.map (·.block))) (fun s8 _ => n + 64 - (intOf s8).toNat)
  case atStart => exact ⟨0, by omega, rfl, ho2, World.grownBy.refl w2 _⟩
  case round =>
    obtain ⟨k, hk, rfl, ho, hg⟩ := hrel
    clear ho2
    obtain ⟨m, hm⟩ : ∃ m, 64 * k = m := ⟨_, rfl⟩
    rw [hm] at ho ⊢
    have hmk : (m : Int) / 64 = (k : Int) := by omega
    have hlo := ho.rs.le
    by_cases hlt : m < n
    · obtain ⟨g, rfl, lg1, lg2⟩ : ∃ g, a2 = some ⟨g, 0, none⟩ ∧ W1.heap.size ≤ g ∧ g < wr.heap.size := by
        rcases ho.shape with ⟨_, h, _⟩ | ⟨g, cur, h1, h2, h3, _⟩
        · omega
        · exact ⟨g, h1, h2, h3⟩
      obtain ⟨q, hq⟩ : ∃ q, (1 + k) % 4294967296 = q := ⟨_, rfl⟩
      have hq32 : q < 4294967296 := by omega
      have hqi : (1 + (k : Int)) % 4294967296 = (q : Int) := by omega
      obtain ⟨b, hbk⟩ := ST_ex key nonce q
      have hbl := hbk.len
      have hbS : ∀ j, j < 64 → S[m + j]? = b[j]? := fun j hj => by
        rw [← hm, Hsg.out k j (by omega) hj, hq]
        show (outC _ _ 16)[j]? = _
        rw [hbk.h]
      have HbS := Lib.hid hbS
      have hg1 : w2.grownBy wr (some g) := hg
      have hA3 := HA2.out.grown hg1 (by simp; omega)
      have hM3 := HM2.out.grown hg1 (by simp; omega)
      have rA := hA3.rng
      have rM := hM3.rng
      have Hst := Lib.hid (stir_any wr hkl hnl q hq32 hbk)
      have HO := Lib.hid ho
      have HG := Lib.hid hg1
      have Hmk := Lib.hid hm
      clear hq hbk hbS hg hg1 hA3 hM3 ho hm
      go_upto_region 6 with (first
        | (refine wpList_load_mid rfl _ _ rfl _ _ rfl (key.map B) _ rA Try.underlying22 rfl hi32.out ?_)
        | (refine wpList_load_mid rfl _ _ rfl _ _ rfl (nonce.map B) _ rM Try.underlying32 rfl hi12.out ?_)
        | (go_at_call 34; refine Hst.out.mono ?_; rintro e w3 ⟨rfl, B3⟩)
        | (refine L_storeAB rfl _ _ _ rfl rfl rfl (show AB (w3.alloc _) w3.heap.size 63 (List.replicate 64 0) from heap_alloc_new w3 _) i64B (by simp) hbl ?_; intro w4 hb4 hg4))
      have z3 := B3.size
      have b4 : Below wr.heap.size wr w4 := (B3.alloc z3 _).grown hg4 (by simp; omega) (fun k hk => by cases hk; exact z3)
      have o4 := HO.out.below b4 (Nat.le_refl _)
      have g4 : w2.grownBy w4 (some g) := ⟨b4.os.trans HG.out.os, b4.tape.trans HG.out.tape, b4.output.trans HG.out.output, Nat.le_trans HG.out.size b4.size, fun k hk hne => (b4.block k (Nat.lt_of_lt_of_le hk HG.out.size)).trans (HG.out.block k hk hne)⟩
      obtain ⟨gb, hgb⟩ : ∃ gb, w3.heap.size = gb := ⟨_, rfl⟩
      rw [hgb] at hb4 ⊢
      have lgb : g < gb := by omega
      have HB4 := Lib.hid hb4
      have HG4 := Lib.hid g4
      have ho4 : OW w4 W1.heap.size 5 1 (some ⟨g, 0, none⟩) n c2 ((mixJ p S (m + 0)).map B) := o4
      clear b4 hg4 o4 g4 hgb B3 Hst HO HG rA rM hb4
      obtain ⟨t, ht⟩ : ∃ t, n - m = t := ⟨_, rfl⟩
      have hti : (n : Int) - (m : Int) = (t : Int) := by omega
      rcases Nat.lt_or_ge t 64 with h64 | h64
      · go_wp2
        go_loopw [31] (fun s31 wr => ∃ j : Nat, j ≤ t ∧ s31 = .int .i64 (j : Int) ∧ OW wr W1.heap.size 5 1 (some ⟨g, 0, none⟩) n c2 ((mixJ p S (m + j)).map B) ∧ w4.grownBy wr (some g)) (fun s31 _ => t - (intOf s31).toNat)
        case atStart => exact ⟨0, by omega, rfl, ho4, World.grownBy.refl w4 _⟩
        case round =>
          obtain ⟨j, hj, rfl, hO5, hG5⟩ := hrel
          clear ho4
          by_cases hjt : j < t
          · obtain ⟨u, hu⟩ : ∃ u, m + j = u := ⟨_, rfl⟩
            have hui : (m : Int) + (j : Int) = (u : Int) := by omega
            have hun : u < n := by omega
            rw [hu] at hO5
            obtain ⟨x, hx⟩ : ∃ x, p.getD u 0 = x := ⟨_, rfl⟩
            obtain ⟨y, hy⟩ : ∃ y, b[j]? = some y := ⟨_, List.getElem?_eq_getElem (by omega)⟩
            have hSy : S.getD u 0 = y := by rw [List.getD_eq_getElem?_getD, ← hu, HbS.out j (by omega), hy]; rfl
            have hget := mixJ_get p S u u (by omega)
            have hset := mixJ_set p S u (by omega)
            rw [if_neg (by omega), hx] at hget
            rw [hx, hSy] at hset
            have hxl := x.toNat_lt
            have hyl := y.toNat_lt
            have q0 : wr.cell? ⟨g, u, none⟩ = some (.int .u8 (x.toNat : Int)) := hO5.cell u (B x) (by rw [List.getElem?_map, hget]; rfl)
            have f0 := hO5.frozen u
            have q1 : wr.cell? ⟨gb, j, none⟩ = some (.int .u8 (y.toNat : Int)) := (HB4.out.grown hG5 (by simp; omega)).cell j y hy
            have hxor := u8_xor_nat x.toNat y.toNat hxl hyl
            have hv : B (x ^^^ y) = .int .u8 ((x.toNat ^^^ y.toNat : Nat) : Int) := by simp [B]
            have hO6 := hO5.setCell u (B (x ^^^ y)) rfl
            rw [← List.map_set, hset, hv] at hO6
            have hG6 := grown_set hG5 u (B (x ^^^ y))
            rw [hv] at hG6
            have HO6 := Lib.hid (OW.drew hO6)
            have HG6 := Lib.hid (grown_drew hG6)
            obtain ⟨z, hz⟩ : ∃ z, x.toNat ^^^ y.toNat = z := ⟨_, rfl⟩
            rw [hz] at hxor HO6 HG6
            have Hu := Lib.hid hu
            clear hu hx hy hSy hget hset hO5 hG5 hv hO6 hG6 hz
            go_upto_region 9 with (fail)
            go_region
            clear q0 q1 f0 hxor
            generalize World.drew _ = W7 at *
            go_wp2
            go_roundw
            case rel => exact ⟨j + 1, by omega, by go_num, by rw [show m + (j + 1) = u + 1 by have := Hu.out; omega]; exact HO6.out, HG6.out⟩
            case measure => simp [intOf]; omega
          · have hje : j = t := by omega
            rw [hje] at hO5 ⊢
            clear hje
            try rw [show ((64 : Nat) : Int) = 64 from rfl]
            rw [mixJ_sat p S (m + t) (64 * (k + 1)) (by have := Hmk.out; omega)] at hO5
            have HO5 := Lib.hid hO5
            have HG6 := Lib.hid (grown_trans HG4.out hG5)
            clear hO5 hG5
            go_wp2
            go_roundw
            case rel => exact ⟨k + 1, by have := Hmk.out; omega, by have := Hmk.out; go_num, HO5.out, HG6.out⟩
            case measure => have := Hmk.out; simp [intOf]; omega
      · go_wp2
        go_loopw [31] (fun s31 wr => ∃ j : Nat, j ≤ 64 ∧ s31 = .int .i64 (j : Int) ∧ OW wr W1.heap.size 5 1 (some ⟨g, 0, none⟩) n c2 ((mixJ p S (m + j)).map B) ∧ w4.grownBy wr (some g)) (fun s31 _ => 64 - (intOf s31).toNat)
        case atStart => exact ⟨0, by omega, rfl, ho4, World.grownBy.refl w4 _⟩
        case round =>
          obtain ⟨j, hj, rfl, hO5, hG5⟩ := hrel
          clear ho4
          by_cases hjt : j < 64
          · obtain ⟨u, hu⟩ : ∃ u, m + j = u := ⟨_, rfl⟩
            have hui : (m : Int) + (j : Int) = (u : Int) := by omega
            have hun : u < n := by omega
            rw [hu] at hO5
            obtain ⟨x, hx⟩ : ∃ x, p.getD u 0 = x := ⟨_, rfl⟩
            obtain ⟨y, hy⟩ : ∃ y, b[j]? = some y := ⟨_, List.getElem?_eq_getElem (by omega)⟩
            have hSy : S.getD u 0 = y := by rw [List.getD_eq_getElem?_getD, ← hu, HbS.out j (by omega), hy]; rfl
            have hget := mixJ_get p S u u (by omega)
            have hset := mixJ_set p S u (by omega)
            rw [if_neg (by omega), hx] at hget
            rw [hx, hSy] at hset
            have hxl := x.toNat_lt
            have hyl := y.toNat_lt
            have q0 : wr.cell? ⟨g, u, none⟩ = some (.int .u8 (x.toNat : Int)) := hO5.cell u (B x) (by rw [List.getElem?_map, hget]; rfl)
            have f0 := hO5.frozen u
            have q1 : wr.cell? ⟨gb, j, none⟩ = some (.int .u8 (y.toNat : Int)) := (HB4.out.grown hG5 (by simp; omega)).cell j y hy
            have hxor := u8_xor_nat x.toNat y.toNat hxl hyl
            have hv : B (x ^^^ y) = .int .u8 ((x.toNat ^^^ y.toNat : Nat) : Int) := by simp [B]
            have hO6 := hO5.setCell u (B (x ^^^ y)) rfl
            rw [← List.map_set, hset, hv] at hO6
            have hG6 := grown_set hG5 u (B (x ^^^ y))
            rw [hv] at hG6
            have HO6 := Lib.hid (OW.drew hO6)
            have HG6 := Lib.hid (grown_drew hG6)
            obtain ⟨z, hz⟩ : ∃ z, x.toNat ^^^ y.toNat = z := ⟨_, rfl⟩
            rw [hz] at hxor HO6 HG6
            have Hu := Lib.hid hu
            clear hu hx hy hSy hget hset hO5 hG5 hv hO6 hG6 hz
            go_upto_region 9 with (fail)
            go_region
            clear q0 q1 f0 hxor
            generalize World.drew _ = W7 at *
            go_wp2
            go_roundw
            case rel => exact ⟨j + 1, by omega, by go_num, by rw [show m + (j + 1) = u + 1 by have := Hu.out; omega]; exact HO6.out, HG6.out⟩
            case measure => simp [intOf]; omega
          · have hje : j = 64 := by omega
            rw [hje] at hO5 ⊢
            clear hje
            try rw [show ((64 : Nat) : Int) = 64 from rfl]
            rw [mixJ_sat p S (m + 64) (64 * (k + 1)) (by have := Hmk.out; omega)] at hO5
            have HO5 := Lib.hid hO5
            have HG6 := Lib.hid (grown_trans HG4.out hG5)
            clear hO5 hG5
            go_wp2
            go_roundw
            case rel => exact ⟨k + 1, by have := Hmk.out; omega, by have := Hmk.out; go_num, HO5.out, HG6.out⟩
            case measure => have := Hmk.out; simp [intOf]; omega
    · have hd : mixJ p S n = d := by rw [← hpl]; exact Hres.h
      rw [mixJ_sat p S m n (by omega), hd] at ho
      clear hd
      have HO := Lib.hid ho
      have hb9 := HB2.out.grown hg HB2.out.size (row_le (fun ad ha => Nat.le_trans hbs (ho.base_le ha).1) (Nat.le_refl _))
      have HB := Lib.hid hb9
      clear ho hg hb9
      go_wp2
      go_ret
      exact ⟨a2, c2, rfl, HO.out.mono hbs, HB.out⟩
end Go.Proofs.Ytlncnjcbgfeaoaa
