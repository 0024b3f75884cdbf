/- salt.Tag. -/
import Derived.Test.YtlncnjcbgfeaoaaCD
import Derived.Test.YtlncnjcbgfeaoaaCB
import Derived.Deep.RegionHeld3
set_option maxRecDepth 100000
set_option linter.unusedVariables false
namespace Go.Proofs.Ytlncnjcbgfeaoaa
open Go.RowKit
theorem i17 : (Try.prog.info? 49).map (·.size) = some 17 := by kernel_rfl
theorem i16 : (Try.prog.info? 27).map (·.size) = some 16 := by kernel_rfl
def z17 : List UInt8 := List.replicate 17 0
def z16 : List UInt8 := List.replicate 16 0
theorem blk17_get (P : List UInt8) (t : Nat) (ht : t = Nat.min P.length 16) : (P.take t ++ z17.drop t)[t]? = some 0 := by
  have h1 : t ≤ P.length := by rw [ht]; exact Nat.min_le_left _ _
  have h2 : t ≤ 16 := by rw [ht]; exact Nat.min_le_right _ _
  have hl : (P.take t).length = t := by rw [List.length_take]; omega
  rw [List.getElem?_append_right (by omega), hl, Nat.sub_self, List.getElem?_drop, z17, List.getElem?_replicate, if_pos (by omega)]
theorem blk17_eq (P : List UInt8) (t : Nat) (ht : t = Nat.min P.length 16) : (P.take t ++ z17.drop t).set t 1 = blk17 P := by
  have h1 : t ≤ P.length := by rw [ht]; exact Nat.min_le_left _ _
  have h2 : t ≤ 16 := by rw [ht]; exact Nat.min_le_right _ _
  have hl : (P.take t).length = t := by rw [List.length_take]; omega
  have h16 : P.take 16 = P.take t := by
    rcases Nat.le_total P.length 16 with h | h
    · have : t = P.length := by rw [ht]; exact Nat.min_eq_left h
      rw [List.take_of_length_le h, List.take_of_length_le (by omega)]
    · have : t = 16 := by rw [ht]; exact Nat.min_eq_right h
      rw [this]
  rw [List.set_append_right _ _ (by omega), hl, Nat.sub_self]
  unfold blk17 z17
  rw [h16, hl, List.drop_replicate, show 17 - t = (16 - t) + 1 by omega, List.replicate_succ, List.set_cons_zero, List.append_assoc]
  rfl
theorem drop_part {p : List UInt8} {n k m t : Nat} (hl : p.length = n) (hm : n - 16 * k = m) (h : t = 16 ∨ (t = m ∧ m ≤ 16)) : (p.drop (16 * k)).drop t = p.drop (16 * (k + 1)) := by
  rw [List.drop_drop]
  rcases h with rfl | ⟨rfl, h2⟩
  · congr 1
  · rw [List.drop_eq_nil_of_le (by omega), List.drop_eq_nil_of_le (by omega)]
theorem bits_next (V i k : Nat) : V / 2 ^ (8 * i) % 2 ^ (k + 1) = V / 2 ^ (8 * i) % 2 ^ k + 2 ^ k * (V / 2 ^ (8 * i + k) % 2) := by
  rw [Nat.pow_succ, Nat.mod_mul, Nat.pow_add, Nat.div_div_eq_div_mul]
theorem LB_slice_lb {P : Program} {w : World} {ops : Array Oper} {rest : List Oper} {o : Oper} {f : Act} {Q : Exit → Act → World → Prop} {t e : TypeId} {zero : Value} {bytes : Nat} (ty : STy P t e zero 1 bytes) {a : Option Addr} {n c : Nat} {xs : List UInt8} (hx : BS w a n c xs) (i : Nat) (x l : Operand) (hg : Region.wanted o (yielded ops f.tmps) = true)
    (hop : o.op = .slice t x (some l) none none) (k1 : IntKind) (I : Int) (ex : f.eval x = .slice a n c) (el : f.eval l = .int k1 I) (hI : I = i) (h1 : i ≤ n)
    (h : ∀ a', (∀ ad, a' = some ad → ∃ ad0, a = some ad0 ∧ ad.block = ad0.block) → BS w a' (n - i) (c - i) (xs.drop i) → wpList P ops Q rest (f.put o.dst (.slice a' (n - i) (c - i))) w) : wpList P ops Q (o :: rest) f w :=
  L_slice_l ty hx i x l hg hop k1 I ex el hI h1 fun a' _ h2 h3 => h a' h2 (by
    unfold BS; simpa only [Nat.mul_one, List.map_drop] using h3)
set_option maxHeartbeats 8000000 in
theorem tag_any (w : World) {a : Option Addr} {n c : Nat} {key p d : List UInt8} (hkl : key.length = 32) (hp : BS w a n c p) (hn : n ≤ 1099511627776) (hD : TG key p d) :
    Calls Try.prog 12 #[.agg (key.map B).toArray, .slice a n c] w fun e w' => e = .returned (.agg (d.map B).toArray) ∧ Below w.heap.size w w' := by
  have hz1 : (w.alloc (.cells (key.map B).toArray 22)).heap.size = w.heap.size + 1 := by simp
  have hz2 : ((w.alloc (.cells (key.map B).toArray 22)).alloc (.cells (z16.map B).toArray 27)).heap.size = w.heap.size + 1 + 1 := by simp
  have hA := ((AB_box w 22 key).al (.cells (z16.map B).toArray 27)).al (.cells (z17.map B).toArray 49)
  have hO := (AB_box (w.alloc (.cells (key.map B).toArray 22)) 27 z16).al (.cells (z17.map B).toArray 49)
  have hR := AB_box ((w.alloc (.cells (key.map B).toArray 22)).alloc (.cells (z16.map B).toArray 27)) 49 z17
  have hb : Below w.heap.size w _ := ((below_alloc w (.cells (key.map B).toArray 22)).alloc (by simp) (.cells (z16.map B).toArray 27)).alloc (by simp; omega) (.cells (z17.map B).toArray 49)
  have hp1 := ((RS.alloc hp (.cells (key.map B).toArray 22)).alloc (.cells (z16.map B).toArray 27)).alloc (.cells (z17.map B).toArray 49)
  rw [hz1] at hO
  rw [hz2] at hR
  rw [show (z16.map B).toArray = #[.int .u8 0, .int .u8 0, .int .u8 0, .int .u8 0, .int .u8 0, .int .u8 0, .int .u8 0, .int .u8 0, .int .u8 0, .int .u8 0, .int .u8 0, .int .u8 0, .int .u8 0, .int .u8 0, .int .u8 0, .int .u8 0] from rfl] at hA hO hR hb hp1
  rw [show (z17.map B).toArray = #[.int .u8 0, .int .u8 0, .int .u8 0, .int .u8 0, .int .u8 0, .int .u8 0, .int .u8 0, .int .u8 0, .int .u8 0, .int .u8 0, .int .u8 0, .int .u8 0, .int .u8 0, .int .u8 0, .int .u8 0, .int .u8 0, .int .u8 0] from rfl] at hA hO hR hb hp1
  clear hz1 hz2
  go_enter Try.func12, Try.ntmps12
  go_upto_region 2 with (fail)
  generalize (World.alloc _ _) = W1 at *
  have l0 := hA.lt
  have l1 := hO.lt
  have l2 := hR.lt
  have HO := Lib.hid hO
  have HB := Lib.hid hb
  have HP := Lib.hid hp1
  have hA16 : BS W1.drew (some ⟨w.heap.size, 0, none⟩) 16 32 (key.take 16) := runB_take (hA.whole (n := 32) hkl (by omega)) 16 (by omega)
  have HA := Lib.hid hA
  have HA16 := Lib.hid hA16
  have HR := Lib.hid (show AB W1.drew (w.heap.size + 1 + 1) 49 z17 from hR)
  clear hO hb hp1 hA hA16 hR
  refine wp_region_held_drew (S := fun _ => True) (by kernel_rfl) trivial (fun hHeld => ?_)
  refine wpAnyH_take (i := 0) (v := .slice (some ⟨w.heap.size + 1 + 1, 0, none⟩) 17 17) rfl (by kernel_rfl) (by kernel_rfl) (by kernel_rfl) (fun _ _ _ h => h) (Or.inl ⟨by rfl, fun w h => by go_simp⟩) hHeld ?_
  try simp only [Act.put, List.getElem_toArray, List.setIfInBounds_toArray]
  refine wpAnyH_take (i := 1) (v := .slice (some ⟨w.heap.size, 0, none⟩) 16 32) rfl (by kernel_rfl) (by kernel_rfl) (by kernel_rfl) (fun _ _ _ h => h) (Or.inl ⟨by rfl, fun w h => by go_simp⟩) hHeld ?_
  try simp only [Act.put, List.getElem_toArray, List.getElem_cons_zero, List.setIfInBounds_toArray, List.set_cons_zero, List.set_cons_succ]
  refine wpAnyH_ready (rs := [2]) (by kernel_rfl) (by simp) (AllReadyH.cons rfl (fun K hK => ?_) AllReadyH.nil)
  refine S_copyAB tB rfl _ _ rfl rfl rfl HR.out (by simp [z17]) HA16.out 16 rfl ?_
  intro w3 hR3 hg3
  refine hK.out _ _ trivial (fun hHeld => ?_)
  clear hK K
  refine wpAnyH_done (by kernel_rfl) ?_ _
  try simp only [Act.put, List.getElem_toArray, List.getElem_cons_succ, List.getElem_cons_zero]
  have hR3' : AB w3 (w.heap.size + 1 + 1) 49 (clA key 3 4) := by
    rw [clA_zero key hkl]
    have e : (key.take 16).take 16 ++ z17.drop 16 = key.take 16 ++ [0] := by rw [List.take_take]; rfl
    rw [← e]; exact hR3
  have hA3 := (show AB W1.drew _ _ _ from HA.out).grown hg3 (by simp; omega)
  have hO3 := (show AB W1.drew _ _ _ from HO.out).grown hg3 (by simp)
  have z3 : W1.heap.size ≤ w3.heap.size := hg3.size
  have hb3 := HB.out.drew.grown hg3 HB.out.size (fun k hk => by cases hk; omega)
  have hp3 : BS w3 a n c p := RS.below hp hb3 (Nat.le_refl _)
  have HA3 := Lib.hid hA3
  have HO3 := Lib.hid hO3
  have HB3 := Lib.hid hb3
  obtain ⟨g2, hg2⟩ : ∃ g2, w.heap.size + 1 + 1 = g2 := ⟨_, rfl⟩
  rw [hg2] at hR3' hg3 ⊢
  clear HA HO HB HP HA16 HR hR3 hA3 hO3 hb3 hp3 hg3 hHeld
  go_wp2
  go_loopw [6] (fun s6 wr => ∃ j : Nat, j ≤ 4 ∧ s6 = .int .i64 (3 + 4 * (j : Int)) ∧ AB wr g2 49 (clA key (3 + 4 * j) 4) ∧ w3.grownBy wr (some g2)) (fun s6 _ => 20 - (intOf s6).toNat)
  case atStart => exact ⟨0, by omega, rfl, hR3', World.grownBy.refl w3 _⟩
  case round =>
    obtain ⟨j, hj, rfl, hX, hg⟩ := hrel
    clear hR3'
    by_cases hlt : j < 4
    · obtain ⟨m, hm⟩ : ∃ m, 3 + 4 * j = m := ⟨_, rfl⟩
      have hmi : 3 + 4 * (j : Int) = (m : Int) := by omega
      obtain ⟨h1, h2⟩ := clA_a key m 4 (by omega) (by omega)
      rw [hm] at hX
      rw [hmi]
      obtain ⟨x, hx⟩ : ∃ x, key.getD m 0 = x := ⟨_, rfl⟩
      rw [hx] at h1 h2
      have hxl := x.toNat_lt
      have q0 := hX.cell m x h1
      have f0 := hX.fr m
      have hq2 := hX.set_ m (UInt8.ofNat (x.toNat % 16))
      have hg2 := grown_set hg m (B (UInt8.ofNat (x.toNat % 16)))
      have hv : B (UInt8.ofNat (x.toNat % 16)) = .int .u8 ((x.toNat : Int) % 16) := by simp only [B, UInt8.toNat_ofNat']; congr 1; omega
      have hand := u8_low4 x.toNat hxl
      rw [show ((x.toNat % 16 : Nat) : Int) = (x.toNat : Int) % 16 by omega] at hand
      rw [h2, hv] at hq2
      rw [hv] at hg2
      have HQ2 := Lib.hid hq2
      have HG2 := Lib.hid hg2
      clear h1 h2 hx hq2 hg2 hv hX hg
      simp only [B] at q0
      go_wp2
      go_roundw
      case rel => exact ⟨j + 1, by omega, by go_num, by rw [show 3 + 4 * (j + 1) = m + 4 by omega]; exact HQ2.out, HG2.out⟩
      case measure => simp [intOf]; omega
    · obtain rfl : j = 4 := by omega
      rw [show (3 + 4 * ((4 : Nat) : Int)) = 19 from rfl]
      have HX := Lib.hid hX
      have HG := Lib.hid hg
      clear hX hg
      go_wp2
      go_loopw [7] (fun s7 wr2 => ∃ j : Nat, j ≤ 3 ∧ s7 = .int .i64 (4 + 4 * (j : Int)) ∧ AB wr2 g2 49 (clA key 19 (4 + 4 * j)) ∧ w3.grownBy wr2 (some g2)) (fun s7 _ => 20 - (intOf s7).toNat)
      case atStart => exact ⟨0, by omega, rfl, HX.out, HG.out⟩
      case round =>
        obtain ⟨j, hj, rfl, hX, hg⟩ := hrel
        clear HX HG
        by_cases hlt : j < 3
        · obtain ⟨m, hm⟩ : ∃ m, 4 + 4 * j = m := ⟨_, rfl⟩
          have hmi : 4 + 4 * (j : Int) = (m : Int) := by omega
          obtain ⟨h1, h2⟩ := clA_b key 19 m (by omega) (by omega) (by omega)
          rw [hm] at hX
          rw [hmi]
          obtain ⟨x, hx⟩ : ∃ x, key.getD m 0 = x := ⟨_, rfl⟩
          rw [hx] at h1 h2
          have hxl := x.toNat_lt
          have q0 := hX.cell m x h1
          have f0 := hX.fr m
          have hq2 := hX.set_ m (UInt8.ofNat (x.toNat - x.toNat % 4))
          have hg2 := grown_set hg m (B (UInt8.ofNat (x.toNat - x.toNat % 4)))
          obtain ⟨y, hy⟩ : ∃ y, x.toNat - x.toNat % 4 = y := ⟨_, rfl⟩
          have hand := u8_cut2 x.toNat hxl
          rw [hy] at h2 hand hq2 hg2
          have hv : B (UInt8.ofNat y) = .int .u8 (y : Int) := by simp only [B, UInt8.toNat_ofNat']; congr 1; omega
          rw [h2, hv] at hq2
          rw [hv] at hg2
          have HQ2 := Lib.hid hq2
          have HG2 := Lib.hid hg2
          clear h1 h2 hx hq2 hg2 hv hX hg hy
          simp only [B] at q0
          go_wp2
          go_roundw
          case rel => exact ⟨j + 1, by omega, by go_num, by rw [show 4 + 4 * (j + 1) = m + 4 by omega]; exact HQ2.out, HG2.out⟩
          case measure => simp [intOf]; omega
        · obtain rfl : j = 3 := by omega
          rw [show (4 + 4 * ((3 : Nat) : Int)) = 16 from rfl]
          have hX : AB wr g2 49 (clA key 19 16) := hX
          have hA4 := HA3.out.grown hg (by simp; omega)
          have hO4 := HO3.out.grown hg (by simp; omega)
          have hb4 := HB3.out.grown hg HB3.out.size (fun k hk => by cases hk; omega)
          have hcl := clA_len key 19 16
          have hKn : EN (tagK key) (ldL (numL (clA key 19 16)) 5 0) := ⟨rfl⟩
          have hKf : LF (tagK key) := ldL_lf _
          have hres := hD.h
          unfold tagS at hres
          obtain ⟨R, hR⟩ : ∃ R, clA key 19 16 = R := ⟨_, rfl⟩
          rw [hR] at hX hcl hKn
          have rR := hX.rng
          have HRl := Lib.hid (show (Try.prog.info? 49).map (·.size) = some (R.map B).length by rw [List.length_map, hcl]; exact i17)
          have hld := load_any wr hcl
          rw [← hKn.h] at hld
          obtain ⟨K, hK⟩ : ∃ K, tagK key = K := ⟨_, rfl⟩
          rw [hK] at hld hKf hres
          have Hld := Lib.hid hld
          have Hres := Lib.hid hres
          have HKf := Lib.hid hKf
          have HA4 := Lib.hid hA4
          have HO4 := Lib.hid hO4
          have HB4 := Lib.hid hb4
          have hKl := hKf.len
          have lg4 := hg.size
          clear hX hg hR hKn hld hK hA4 hO4 hb4 hres hKf HA3 HO3 HB3
          go_upto_region 12 with (first
            | (refine wpList_load_mid rfl _ _ rfl _ _ rfl (R.map B) _ rR Try.underlying49 rfl HRl.out ?_)
            | (go_at_call 23; refine Hld.out.mono ?_; rintro e w5 ⟨rfl, hB5⟩)
            | (refine L_storeL rfl _ _ _ rfl K rfl rfl (show AL (w5.alloc _) w5.heap.size 52 [0, 0, 0, 0, 0] from heap_alloc_new w5 _) iL (by simp) hKl ?_; intro w6 hK6 hg6))
          have z5 := hB5.size
          have lA := HA4.out.lt
          have lO := HO4.out.lt
          have hA6 := ((HA4.out.bl hB5 lA).al (.cells #[.int .u64 0, .int .u64 0, .int .u64 0, .int .u64 0, .int .u64 0] 52)).grown hg6 (by simp; omega)
          have hO6 := ((HO4.out.bl hB5 lO).al (.cells #[.int .u64 0, .int .u64 0, .int .u64 0, .int .u64 0, .int .u64 0] 52)).grown hg6 (by simp; omega)
          have hb6 := ((HB4.out.trans (hB5.mono HB4.out.size)).alloc (Nat.le_trans HB4.out.size z5) (.cells #[.int .u64 0, .int .u64 0, .int .u64 0, .int .u64 0, .int .u64 0] 52)).grown hg6 (by simp; have := HB4.out.size; omega) (fun k hk => by cases hk; have := HB4.out.size; omega)
          obtain ⟨g8, hg8⟩ : ∃ g8, w5.heap.size = g8 := ⟨_, rfl⟩
          rw [hg8] at hK6 ⊢
          have lg8 : w.heap.size + 1 < g8 := by omega
          have hA7 := hA6.al (.cells #[.int .u64 0, .int .u64 0, .int .u64 0, .int .u64 0, .int .u64 0] 52)
          have hO7 := hO6.al (.cells #[.int .u64 0, .int .u64 0, .int .u64 0, .int .u64 0, .int .u64 0] 52)
          have hK7 := hK6.al (.cells #[.int .u64 0, .int .u64 0, .int .u64 0, .int .u64 0, .int .u64 0] 52)
          have hb7 := hb6.alloc hb6.size (.cells #[.int .u64 0, .int .u64 0, .int .u64 0, .int .u64 0, .int .u64 0] 52)
          have hH : AL (w6.alloc (.cells #[.int .u64 0, .int .u64 0, .int .u64 0, .int .u64 0, .int .u64 0] 52)) w6.heap.size 52 (hrun K p 0) := heap_alloc_new _ _
          have lK6 := hK6.lt
          have lH := hH.lt
          have HA7 := Lib.hid hA7
          have HO7 := Lib.hid hO7
          have HK7 := Lib.hid hK7
          have HB7 := Lib.hid hb7
          obtain ⟨g9, hg9⟩ : ∃ g9, w6.heap.size = g9 := ⟨_, rfl⟩
          rw [hg9] at hH lH
          have l89 : g8 < g9 := by omega
          clear hA6 hO6 hb6 hK6 hA7 hO7 hK7 hb7 HA4 HO4 HB4 Hld hB5 hg6 rR
          go_upto_region 13 with (fail)
          generalize (World.alloc _ _) = W7 at *
          clear hg9
          go_wp2
          go_loopw [1] (fun s1 wr => ∃ (k : Nat) (a' : Option Addr) (c' : Nat), 16 * k < n + 16 ∧ s1 = .slice a' (n - 16 * k) c' ∧ BS wr a' (n - 16 * k) c' (p.drop (16 * k)) ∧ (∀ ad, a' = some ad → ∃ ad0, a = some ad0 ∧ ad.block = ad0.block) ∧ AL wr g9 52 (hrun K p k) ∧ W7.grownBy wr (some g9)) (fun s1 _ => lenV s1)
          case atStart => exact ⟨0, a, c, by omega, rfl, by simpa using RS.below hp HB7.out (Nat.le_refl _), fun ad had => ⟨ad, had, rfl⟩, hH, World.grownBy.refl W7 _⟩
          case round =>
            obtain ⟨k, a', c', hk, rfl, hP, hab, hX, hg⟩ := hrel
            clear hH
            obtain ⟨m, hm⟩ : ∃ m, n - 16 * k = m := ⟨_, rfl⟩
            rw [hm] at hP ⊢
            by_cases hlt : 0 < m
            · have hPl := BS.len hP
              obtain ⟨P, hPe⟩ : ∃ P, p.drop (16 * k) = P := ⟨_, rfl⟩
              have hHn := (hrun_nf HKf.out p k).lf
              have hnx : EN (hrun K p (k + 1)) (hstep K (hrun K p k) P) := ⟨by rw [← hPe]; rfl⟩
              obtain ⟨H, hHe⟩ : ∃ H, hrun K p k = H := ⟨_, rfl⟩
              rw [hHe] at hX hHn hnx
              rw [hPe] at hP hPl
              have hPd : EB (p.drop (16 * k)) P := ⟨hPe⟩
              obtain ⟨t, ht⟩ : ∃ t, Nat.min m 16 = t := ⟨_, rfl⟩
              have ht1 : t ≤ m := by rw [← ht]; exact Nat.min_le_left _ _
              have ht2 : t ≤ 16 := by rw [← ht]; exact Nat.min_le_right _ _
              have ht3 : 0 < t := by rcases Nat.le_total m 16 with h | h; (rw [← ht, show Nat.min m 16 = m from Nat.min_eq_left h]; exact hlt); (rw [← ht, show Nat.min m 16 = 16 from Nat.min_eq_right h]; omega)
              have ht4 : t = 16 ∨ t = m := by rcases Nat.le_total m 16 with h | h; (right; rw [← ht]; exact Nat.min_eq_left h); (left; rw [← ht]; exact Nat.min_eq_right h)
              have hbe := blk17_eq P t (by rw [hPl]; exact ht.symm)
              have hbg := blk17_get P t (by rw [hPl]; exact ht.symm)
              have hbl := blk17_len P
              have HX := Lib.hid hX
              have HG := Lib.hid hg
              have hP1 : BS (wr.alloc (.cells (z17.map B).toArray 49)) a' m c' P := RS.alloc hP _
              have hab3 := Lib.hid hab
              have hab2 : ∀ ad, a' = some ad → ad.block < w.heap.size := fun ad had => by obtain ⟨ad0, h0, h1⟩ := hab ad had; rw [h1]; exact hp.block_lt h0 (by omega) (by omega)
              have hB1 := AB_box wr 49 z17
              have hX8 := HX.out.al (.cells (z17.map B).toArray 49)
              have hg1 := grown_trans hg (World.grownBy_alloc wr (.cells (z17.map B).toArray 49) (some g9))
              have lw := hg.size
              rw [show (z17.map B).toArray = #[.int .u8 0, .int .u8 0, .int .u8 0, .int .u8 0, .int .u8 0, .int .u8 0, .int .u8 0, .int .u8 0, .int .u8 0, .int .u8 0, .int .u8 0, .int .u8 0, .int .u8 0, .int .u8 0, .int .u8 0, .int .u8 0, .int .u8 0] from rfl] at hP1 hB1 hg1 hX8
              have HX8 := Lib.hid hX8
              obtain ⟨gb, hgb⟩ : ∃ gb, wr.heap.size = gb := ⟨_, rfl⟩
              rw [hgb] at hB1 lw
              clear hPe hHe hX hg hP hm hab hX8
              go_upto_region 15 with (fail)
              generalize (World.alloc _ _) = W8 at *
              have HG1 := Lib.hid hg1
              clear hg1
              go_upto_region 16 with (refine L_copyAB tB rfl _ _ rfl rfl rfl hB1 (by simp [z17]) hP1 t ht.symm ?_; intro w9 hB9 hg9)
              have hP9 := hP1.grown hg9 (fun ad had => by have := hab2 ad had; simp; omega)
              have hG9 := grown_new HG1.out hg9 (by omega)
              have hX9 := HX8.out.grown hg9 (by simp; omega)
              have q0 : w9.cell? ⟨gb, t, none⟩ = some (.int .u8 0) := hB9.cell t 0 hbg
              have f0 := hB9.fr t
              have hB10 := hB9.set_ t 1
              rw [hbe] at hB10
              have hg10 := grownBy_setCell w9 ⟨gb, t, none⟩ (B 1)
              have hX10 := hX9.grown hg10 (by simp; omega)
              have hP10 := hP9.grown hg10 (fun ad had => by have := hab2 ad had; simp; omega)
              have hG10 := grown_new hG9 hg10 (show W7.heap.size ≤ gb by omega)
              simp only [show B (1 : UInt8) = .int .u8 1 from rfl] at hB10 hg10 hP10 hG10 hX10
              have HB10 := Lib.hid hB10
              have HP10 := Lib.hid hP10
              have HG10 := Lib.hid hG10
              have HX10 := Lib.hid hX10
              clear hP1 hB1 HG1 hB9 hP9 hG9 hB10 hg10 hP10 hG10 hg9 hX9 hX10 HX8 HX
              go_upto_region 17 with (fail)
              clear q0 f0
              generalize (World.setCell _ _ _) = W10 at *
              obtain ⟨BK, hBK⟩ : ∃ BK, blk17 P = BK := ⟨_, rfl⟩
              have hld := load_any W10 hbl
              have hXf := ldL_lf (numL (blk17 P))
              have hB10 := HB10.out
              have hXn : EN (hstep K H P) (cars (tmul (cars (addL H (ldL (numL (blk17 P)) 5 0) 5) 2) K 5) 2) := ⟨rfl⟩
              obtain ⟨XL, hXL⟩ : ∃ XL, ldL (numL (blk17 P)) 5 0 = XL := ⟨_, rfl⟩
              rw [hXL] at hld hXf hXn
              rw [hBK] at hld hbl hB10
              have rB := hB10.rng
              have HBl := Lib.hid (show (Try.prog.info? 49).map (·.size) = some (BK.map B).length by rw [List.length_map, hbl]; exact i17)
              have Hld := Lib.hid hld
              have HXf := Lib.hid hXf
              have hXl := hXf.len
              clear hld hB10 hBK hXL HB10 hXf
              go_upto_region 18 with (first
                | (refine wpList_load_mid rfl _ _ rfl _ _ rfl (BK.map B) _ rB Try.underlying49 rfl HBl.out ?_)
                | (go_at_call 23; refine Hld.out.mono ?_; rintro e w11 ⟨rfl, hB11⟩)
                | (refine L_storeL rfl _ _ _ rfl XL rfl rfl (show AL (w11.alloc _) w11.heap.size 52 [0, 0, 0, 0, 0] from heap_alloc_new w11 _) iL (by simp) hXl ?_; intro w12 hL12 hg12))
              have z10 := HG10.out.size
              have z11 := hB11.size
              have lX := HX10.out.lt
              have hX12 := ((show AL w11 g9 52 H by unfold AL; rw [hB11.block g9 lX]; exact HX10.out).al (.cells #[.int .u64 0, .int .u64 0, .int .u64 0, .int .u64 0, .int .u64 0] 52)).grown hg12 (by simp; omega)
              have hb12 : Below W10.heap.size W10 w12 := (hB11.alloc z11 _).grown hg12 (by simp; omega) (fun k hk => by cases hk; exact z11)
              have hP12 := RS.below HP10.out hb12 (Nat.le_refl _)
              have hG12 : W7.grownBy w12 (some g9) := ⟨hb12.os.trans HG10.out.os, hb12.tape.trans HG10.out.tape, hb12.output.trans HG10.out.output, Nat.le_trans HG10.out.size hb12.size, fun k hk hne => (hb12.block k (by omega)).trans (HG10.out.block k hk hne)⟩
              obtain ⟨g12, hg12e⟩ : ∃ g12, w11.heap.size = g12 := ⟨_, rfl⟩
              rw [hg12e] at hL12 ⊢
              have hL5 := HXf.out
              have l12 : g9 < g12 := by omega
              have hX0 : AL w12 g9 52 (addL H XL 0) := by rw [addL_zero hHn.len]; exact hX12
              have HL12 := Lib.hid hL12
              have HP12 := Lib.hid hP12
              have HG12 := Lib.hid hG12
              clear hX12 hb12 hP12 hG12 hg12e hL12 hg12 hB11 Hld rB HX10 HP10 HG10 hL5 z10 z11 lX
              go_wp2
              go_loopw [53] (fun s53 wr => ∃ i : Nat, i ≤ 5 ∧ s53 = .int .i64 (i : Int) ∧ AL wr g9 52 (addL H XL i) ∧ w12.grownBy wr (some g9)) (fun s53 _ => 5 - (intOf s53).toNat)
              case atStart => exact ⟨0, by omega, rfl, hX0, World.grownBy.refl w12 _⟩
              case round =>
                obtain ⟨i, hi, rfl, hQ, hgq⟩ := hrel
                clear hX0
                by_cases hi5 : i < 5
                · obtain ⟨x, ex, lx⟩ := hHn.get i hi5
                  obtain ⟨y, ey, ly⟩ := HXf.out.get i hi5
                  have eg := addL_get H XL i hi5 x ex
                  have es := addL_set H XL i hi5 x y ex ey
                  have q0 := hQ.cell i x eg
                  have q1 := (HL12.out.grown hgq (by simp; omega)).cell i y ey
                  have f0 := hQ.fr i
                  have hq2 := hQ.set_ i (x + y)
                  have hg2 := grown_set hgq i (.int .u64 ((x + y : Nat) : Int))
                  have hv : ((x + y : Nat) : Int) = (x : Int) + (y : Int) := by omega
                  rw [es, hv] at hq2
                  rw [hv] at hg2
                  have HQ2 := Lib.hid hq2.drew
                  have HG2 := Lib.hid (grown_drew hg2)
                  clear ex ey eg es hq2 hg2 hv hQ hgq
                  go_upto_region 21 with (fail)
                  go_region
                  clear q0 q1 f0
                  generalize World.drew _ = W13 at *
                  go_wp2
                  go_roundw
                  case rel => exact ⟨i + 1, by omega, by go_num, HQ2.out, HG2.out⟩
                  case measure => simp [intOf]; omega
                · obtain rfl : i = 5 := by omega
                  rw [show ((5 : Nat) : Int) = 5 from rfl]
                  have hlm := addL_lm hHn HXf.out
                  have hc1 := (cars_nf hlm).lf
                  obtain ⟨S, hS⟩ : ∃ S, addL H XL 5 = S := ⟨_, rfl⟩
                  rw [hS] at hQ hlm hc1 hXn
                  have hcar := carry_any wr hQ hlm
                  obtain ⟨C, hC⟩ : ∃ C, cars S 2 = C := ⟨_, rfl⟩
                  rw [hC] at hcar hc1 hXn
                  have hlt2 := (LT.mul hc1 HKf.out 5 (Nat.le_refl _)).room
                  have hDl := (hlt2.cars 2 (by omega)).len
                  have htm := fun w0 => times_any w0 hc1 HKf.out
                  obtain ⟨D, hDe⟩ : ∃ D, cars (tmul C K 5) 2 = D := ⟨_, rfl⟩
                  have hDn : EN (hrun K p (k + 1)) D := ⟨by rw [hnx.h, hXn.h]; exact hDe⟩
                  rw [hDe] at hDl htm
                  have Hcar := Lib.hid hcar
                  have Htm := Lib.hid htm
                  have HcC := Lib.hid hc1
                  have HC5 := Lib.hid (show (Try.prog.info? 52).map (·.size) = some (C.map UV).length by rw [List.length_map, hc1.len]; exact iL)
                  have HK5 := Lib.hid (show (Try.prog.info? 52).map (·.size) = some (K.map UV).length by rw [List.length_map, hKl]; exact iL)
                  have hKr := (HK7.out.grown (grown_trans HG12.out hgq) (by simp; omega))
                  have HKr := Lib.hid hKr
                  have HGq := Lib.hid (grown_trans HG12.out hgq)
                  have HPq := Lib.hid (HP12.out.grown hgq (fun ad had => by have := hab2 ad had; simp; omega))
                  have lq := hgq.size
                  clear hQ hlm hc1 hS hcar hC hlt2 htm hDe hKr hgq HG12 HP12 HL12
                  go_upto_region 24 with (go_at_call 24; refine Hcar.out.mono ?_; rintro e w14 ⟨rfl, hC14, hg14⟩)
                  have rC := hC14.rng
                  have rK := (HKr.out.grown hg14 (by simp; omega)).rng
                  have hl14 := hC14.lt
                  go_upto_region 25 with (first
                    | (refine wpList_load_mid rfl _ _ rfl _ _ rfl (C.map UV) _ rC Try.underlying52 rfl HC5.out ?_)
                    | (refine wpList_load_mid rfl _ _ rfl _ _ rfl (K.map UV) _ rK Try.underlying52 rfl HK5.out ?_)
                    | (go_at_call 25; refine (Htm.out _).mono ?_; rintro e w15 ⟨rfl, hB15⟩)
                    | (refine L_storeL rfl _ _ _ rfl D rfl rfl (show AL w15 g9 52 C by unfold AL; rw [hB15.block g9 hl14]; exact hC14) iL HcC.out.len hDl ?_; intro w16 hD16 hg16))
                  have hP15 := RS.below (HPq.out.grown hg14 (fun ad had => by have := hab2 ad had; simp; omega)) hB15 (Nat.le_refl _)
                  have hP16 := hP15.grown hg16 (fun ad had => by have := hab2 ad had; simp; omega)
                  have z14 := hg14.size
                  have hG14 := grown_trans HGq.out hg14
                  have hG15 : W7.grownBy w15 (some g9) := ⟨hB15.os.trans hG14.os, hB15.tape.trans hG14.tape, hB15.output.trans hG14.output, Nat.le_trans hG14.size hB15.size, fun k hk hne => (hB15.block k (Nat.lt_of_lt_of_le hk hG14.size)).trans (hG14.block k hk hne)⟩
                  have hG16 := grown_trans hG15 hg16
                  have hdp := drop_part (BS.len hp) (show n - 16 * k = m by rw [← hPl, ← hPd.h, List.length_drop, BS.len hp]) (show t = 16 ∨ (t = m ∧ m ≤ 16) by omega)
                  rw [hPd.h] at hdp
                  have hmk : n - 16 * k = m := by rw [← hPl, ← hPd.h, List.length_drop, BS.len hp]
                  rw [← hDn.h] at hD16
                  have HD16 := Lib.hid hD16
                  have HG16 := Lib.hid hG16
                  have Hdp := EB.mk hdp
                  have Hmk := Lib.hid hmk
                  clear hP15 hG14 hG15 hG16 hdp hmk hD16 hg14 hg16 hB15 hC14 rC rK Hcar Htm HKr HGq HPq
                  go_wp2_with (refine LB_slice_lb tB hP16 t _ _ rfl rfl _ _ rfl rfl rfl ht1 ?_; intro a9 ha9 hP17)
                  rw [Hdp.h] at hP17
                  have HP17 := Lib.hid hP17
                  have hab9 : ∀ ad, a9 = some ad → ∃ ad0, a = some ad0 ∧ ad.block = ad0.block := fun ad had => by
                    obtain ⟨ad1, h1, h2⟩ := ha9 ad had
                    obtain ⟨ad0, h3, h4⟩ := hab3.out ad1 h1
                    exact ⟨ad0, h3, h2.trans h4⟩
                  have hmt : m - t = n - 16 * (k + 1) := by have := Hmk.out; omega
                  rw [hmt] at hP17 HP17 ⊢
                  go_roundw
                  case rel => exact ⟨k + 1, a9, _, by have := Hmk.out; omega, rfl, HP17.out, hab9, HD16.out, HG16.out⟩
                  case measure => have := Hmk.out; simp [lenV]; omega
            · obtain rfl : m = 0 := by omega
              have hkn : (n + 15) / 16 = k := by omega
              have hres := Hres.out
              rw [BS.len hp, hkn] at hres
              have hHn := (hrun_nf HKf.out p k).lf
              have hnn := (leastS_val (cars_nn (hrun_nf HKf.out p k))).1
              obtain ⟨H, hHe⟩ : ∃ H, hrun K p k = H := ⟨_, rfl⟩
              rw [hHe] at hX hHn hres hnn
              have hls := fun w0 => least_any w0 hHn.lm
              obtain ⟨L, hL⟩ : ∃ L, leastS (cars H 2) = L := ⟨_, rfl⟩
              rw [hL] at hls hres hnn
              have rH := hX.rng
              have HH5 := Lib.hid (show (Try.prog.info? 52).map (·.size) = some (H.map UV).length by rw [List.length_map, hHn.len]; exact iL)
              have hLl : L.length = 5 := by obtain ⟨_, _, _, _, _, h, _⟩ := hnn.h; rw [h]; rfl
              have Hls := Lib.hid hls
              have Hnn := Lib.hid hnn
              have Hr := Lib.hid hres
              have HHl := Lib.hid hHn.len
              have hA8 := HA7.out.grown hg (by simp; omega)
              have hO8 := HO7.out.grown hg (by simp; omega)
              have hb8 := HB7.out.grown hg HB7.out.size (fun k hk => by cases hk; omega)
              have HA8 := Lib.hid hA8
              have HO8 := Lib.hid hO8
              have HB8 := Lib.hid hb8
              have lX := hX.lt
              clear hls hnn hres hHn hHe hL hA8 hO8 hb8 hg hP hab HK7 HA7 HO7 HB7 Hres hkn hm
              go_upto_region 27 with (first
                | (refine wpList_load_mid rfl _ _ rfl _ _ rfl (H.map UV) _ rH Try.underlying52 rfl HH5.out ?_)
                | (go_at_call 26; refine (Hls.out _).mono ?_; rintro e w21 ⟨rfl, hB21⟩)
                | (refine L_storeL rfl _ _ _ rfl L rfl rfl (show AL w21 g9 52 H by unfold AL; rw [hB21.block g9 lX]; exact hX) iL HHl.out hLl ?_; intro w22 hL22 hg22))
              obtain ⟨V, hV⟩ : ∃ V, valL L = V := ⟨_, rfl⟩
              have hbit := fun m hm => Hnn.out.bit m hm
              have hr := Hr.out
              simp only [hV] at hbit
              rw [hV] at hr
              obtain ⟨ks, hks⟩ : ∃ ks, key.drop 16 = ks := ⟨_, rfl⟩
              have hkg : ∀ i, i < 16 → ∃ y, key[16 + i]? = some y ∧ ks.getD i 0 = y := fun i hi => by
                refine ⟨key[16 + i]'(by omega), List.getElem?_eq_getElem _, ?_⟩
                rw [← hks, List.getD_eq_getElem?_getD, List.getElem?_drop, List.getElem?_eq_getElem (by omega)]; rfl
              rw [hks] at hr
              have Hbit := Lib.hid hbit
              have Hkg := Lib.hid hkg
              have Htd := EB.mk hr
              have z8 := HB8.out.size
              have z21 := hB21.size
              have z22 := hg22.size
              have hA22 := (HA8.out.bl hB21 HA8.out.lt).grown hg22 (by simp; omega)
              have hO22 := (HO8.out.bl hB21 HO8.out.lt).grown hg22 (by simp; omega)
              have hb22 := (HB8.out.trans (hB21.mono z8)).grown hg22 (Nat.le_trans z8 z21) (fun k hk => by cases hk; omega)
              have lL := hL22.lt
              have HA23 := Lib.hid (hA22.al (.cells (z16.map B).toArray 27))
              have HO23 := Lib.hid (hO22.al (.cells (z16.map B).toArray 27))
              have HL23 := Lib.hid (hL22.al (.cells (z16.map B).toArray 27))
              have HB23 := Lib.hid (hb22.alloc hb22.size (.cells (z16.map B).toArray 27))
              have hT : AB (w22.alloc (.cells (z16.map B).toArray 27)) w22.heap.size 27 (tout V ks 0) := by rw [tout_zero]; exact AB_box _ _ _
              rw [show (z16.map B).toArray = #[.int .u8 0, .int .u8 0, .int .u8 0, .int .u8 0, .int .u8 0, .int .u8 0, .int .u8 0, .int .u8 0, .int .u8 0, .int .u8 0, .int .u8 0, .int .u8 0, .int .u8 0, .int .u8 0, .int .u8 0, .int .u8 0] from rfl] at HA23 HO23 HL23 HB23 hT
              have l22 : w.heap.size + 1 < w22.heap.size := by have := hO22.lt; omega
              obtain ⟨g14, hg14⟩ : ∃ g14, w22.heap.size = g14 := ⟨_, rfl⟩
              rw [hg14] at hT l22 lL
              clear hV hbit hr hks hkg hA22 hO22 hb22 hL22 hg22 hB21 Hls Hnn Hr HA8 HO8 HB8 hX rH z22 lX
              go_upto_region 28 with (fail)
              generalize (World.alloc _ _) = W23 at *
              clear hg14
              go_wp2
              go_loopw [15, 74] (fun s15 s74 wr => ∃ i : Nat, i ≤ 16 ∧ s15 = .int .u64 ((tcar V ks i : Nat) : Int) ∧ s74 = .int .i64 (i : Int) ∧ AB wr g14 27 (tout V ks i) ∧ W23.grownBy wr (some g14)) (fun _ s74 _ => 16 - (intOf s74).toNat)
              case atStart => exact ⟨0, by omega, rfl, rfl, hT, World.grownBy.refl W23 _⟩
              case round =>
                obtain ⟨i, hi, rfl, rfl, hX, hg⟩ := hrel
                clear hT
                by_cases hi16 : i < 16
                · obtain ⟨cv, hcv⟩ : ∃ cv, tcar V ks i = cv := ⟨_, rfl⟩
                  have hc1 : cv ≤ 1 := by rw [← hcv]; exact tcar_le V ks i
                  have Hcv := Lib.hid hcv
                  rw [hcv]
                  have hL24 := HL23.out.grown hg (by simp; omega)
                  have HL24 := Lib.hid hL24
                  have HX := Lib.hid hX
                  have HG := Lib.hid hg
                  clear hcv hL24 hX hg
                  go_wp2
                  rw [show decide ((i : Int) < 16) = true from decide_eq_true (by omega)]
                  go_loopw [17, 77] (fun s17 s77 w2 => wr = w2 ∧ ∃ k : Nat, k ≤ 8 ∧ s17 = .int .u64 ((V / 2 ^ (8 * i) % 2 ^ k : Nat) : Int) ∧ s77 = .int .i64 (k : Int)) (fun _ s77 _ => 8 - (intOf s77).toNat)
                  case atStart => exact ⟨rfl, 0, by omega, by simp [Nat.mod_one], rfl⟩
                  case round =>
                    obtain ⟨rfl, k, hk, rfl, rfl⟩ := hrel
                    by_cases hk8 : k < 8
                    · obtain ⟨m, hm⟩ : ∃ m, 8 * i + k = m := ⟨_, rfl⟩
                      have hm128 : m < 128 := by omega
                      have hmi : 8 * (i : Int) + (k : Int) = (m : Int) := by omega
                      obtain ⟨x, hx, lx, hxb⟩ := Hbit.out m (by omega)
                      have hnext := bits_next V i k
                      rw [hm, ← hxb] at hnext
                      obtain ⟨x0, hx0⟩ : ∃ x0, V / 2 ^ (8 * i) % 2 ^ k = x0 := ⟨_, rfl⟩
                      have hxl : x0 < 2 ^ k := by rw [← hx0]; exact Nat.mod_lt _ (Nat.two_pow_pos k)
                      rw [hx0] at hnext ⊢
                      obtain ⟨e26, he26⟩ : ∃ e26, m % 26 = e26 := ⟨_, rfl⟩
                      obtain ⟨j26, hj26⟩ : ∃ j26, m / 26 = j26 := ⟨_, rfl⟩
                      rw [he26] at hnext
                      rw [hj26] at hx
                      obtain ⟨b, hbe⟩ : ∃ b, x / 2 ^ e26 % 2 = b := ⟨_, rfl⟩
                      rw [hbe] at hnext
                      have hb2 : b < 2 := by omega
                      have hor := or_up x0 b k hxl (by omega) hb2
                      have q1 := HL24.out.cell j26 x hx
                      have d26 : (m : Int) / 26 = (j26 : Int) := by omega
                      have r26 : (m : Int) % 26 = (e26 : Int) := by omega
                      have hj5 : j26 < 5 := by omega
                      have he : e26 < 26 := by omega
                      have hand : bits .and .u64 ((x : Int) / 2 ^ e26) 1 = (b : Int) := by
                        have hlt8 : x / 2 ^ e26 < 18446744073709551616 := Nat.lt_of_le_of_lt (Nat.div_le_self _ _) (by omega)
                        have h := u64_and_nat (x / 2 ^ e26) 1 hlt8 (by decide)
                        rw [Nat.and_one_is_mod, hbe] at h
                        rw [show ((x : Int) / 2 ^ e26) = ((x / 2 ^ e26 : Nat) : Int) by simp]
                        exact h
                      obtain ⟨sv, hsv⟩ : ∃ sv, 2 ^ k * b = sv := ⟨_, rfl⟩
                      rw [hsv] at hor hnext
                      have hp26 : 2 ^ k ≤ 2 ^ 26 := Nat.pow_le_pow_right (by decide) (by omega)
                      have hsv26 : sv ≤ 67108864 := by rw [← hsv]; exact Nat.le_trans (Nat.mul_le_mul hp26 (show b ≤ 1 by omega)) (by decide)
                      have hshl : (b : Int) * 2 ^ k = (sv : Int) := by rw [← hsv]; simp [Int.mul_comm]
                      have hwr : IntKind.u64.wrap (sv : Int) = (sv : Int) := IntWalk.u64_in _ (by omega)
                      obtain ⟨nv, hnv⟩ : ∃ nv, x0 + sv = nv := ⟨_, rfl⟩
                      rw [hnv] at hor hnext
                      have Hnext := Lib.hid hnext
                      clear hm hx hxb hnext hx0 hbe he26 hj26 hsv hnv
                      go_wp2
                      go_roundw
                      case rel => exact ⟨trivial, k + 1, by omega, by rw [Hnext.out], by go_num⟩
                      case measure => simp [intOf]; omega
                    · obtain rfl : k = 8 := by omega
                      rw [show ((8 : Nat) : Int) = 8 from rfl]
                      obtain ⟨y, hy, hyk⟩ := Hkg.out i hi16
                      have q2 : wr.cell? ⟨w.heap.size, 16 + i, none⟩ = some (.int .u8 (y.toNat : Int)) := (HA23.out.grown HG.out (by simp; omega)).cell (16 + i) y hy
                      have hyl := y.toNat_lt
                      obtain ⟨bv, hbv⟩ : ∃ bv, V / 2 ^ (8 * i) % 2 ^ 8 = bv := ⟨_, rfl⟩
                      have hbl : bv < 256 := by rw [← hbv]; exact Nat.mod_lt _ (by decide)
                      rw [hbv]
                      obtain ⟨m, hm⟩ : ∃ m, 16 + i = m := ⟨_, rfl⟩
                      have hmi : 16 + (i : Int) = (m : Int) := by omega
                      rw [hm] at q2
                      have hset := tout_set V ks i hi16
                      have htn : tcar V ks (i + 1) = (tcar V ks i + V / 2 ^ (8 * i) % 2 ^ 8 + (ks.getD i 0).toNat) / 256 := rfl
                      rw [show (256 : Nat) = 2 ^ 8 by rfl] at hset
                      rw [Hcv.out, hbv, hyk] at hset htn
                      obtain ⟨sv, hsv⟩ : ∃ sv, cv + bv + y.toNat = sv := ⟨_, rfl⟩
                      have hsi : (cv : Int) + ((bv : Int) + (y.toNat : Int)) = (sv : Int) := by omega
                      have hs512 : sv < 512 := by omega
                      rw [hsv] at hset htn
                      have f14 := HX.out.fr i
                      obtain ⟨old, hold⟩ : ∃ old, (tout V ks i)[i]? = some old := ⟨_, List.getElem?_eq_getElem (by rw [tout_len]; exact hi16)⟩
                      have q14 := HX.out.cell i old hold
                      have hX2 := HX.out.set_ i (UInt8.ofNat sv)
                      have hg2 := grown_set HG.out i (B (UInt8.ofNat sv))
                      have hv : B (UInt8.ofNat sv) = .int .u8 ((sv : Int) % 256) := by simp only [B, UInt8.toNat_ofNat']; congr 1
                      rw [hset, hv] at hX2
                      rw [hv] at hg2
                      have hdv : ((tcar V ks (i + 1) : Nat) : Int) = (sv : Int) / 256 := by rw [htn]; omega
                      have HX2 := Lib.hid hX2
                      have HG2 := Lib.hid hg2
                      have Hdv := Lib.hid hdv
                      clear hy hyk hbv hm hset htn hsv hold hX2 hg2 hv hdv HX HG HL24
                      go_wp2
                      go_roundw
                      case rel => exact ⟨i + 1, by omega, by rw [Hdv.out], by go_num, HX2.out, HG2.out⟩
                      case measure => simp [intOf]; omega
                · obtain rfl : i = 16 := by omega
                  rw [show ((16 : Nat) : Int) = 16 from rfl]
                  rw [Htd.h] at hX
                  have rX := hX.rng
                  have hdl := hD.len
                  have h16 : (Try.prog.info? 27).map (·.size) = some (d.map B).length := by rw [List.length_map, hdl]; exact i16
                  have H16 := Lib.hid h16
                  have hi2 := Lib.hid (show (Try.prog.info? 27).map (·.size) = some (d.map B).toArray.size by rw [List.size_toArray]; exact h16)
                  have hO24 := HO23.out.grown hg (by simp; omega)
                  have HB24 := Lib.hid (HB23.out.grown hg HB23.out.size (fun k hk => by cases hk; omega))
                  clear hX hg h16
                  go_wp2_with (first
                    | (refine wpList_load_mid rfl _ _ rfl _ _ rfl (d.map B) _ rX Try.underlying27 rfl H16.out ?_)
                    | (refine L_storeAB rfl _ _ _ rfl rfl rfl hO24 i16 (by simp [z16]) hdl ?_; intro w9 hO9 hg9))
                  refine bodyPost_ret_by (results_cell_row rfl _ _ _ _ _ _ _ rfl hO9 Try.underlying27 rfl hi2.out) rfl ⟨rfl, ?_⟩
                  exact HB24.out.grown hg9 HB24.out.size (fun k hk => by cases hk; omega)
end Go.Proofs.Ytlncnjcbgfeaoaa
