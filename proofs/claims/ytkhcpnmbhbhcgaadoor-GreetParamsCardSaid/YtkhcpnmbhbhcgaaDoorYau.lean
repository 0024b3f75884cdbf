/- texts S6 S7 in one. -/
import Derived.Test.YtkhcpnmbhbhcgaaDoorYas
import Derived.Test.YtkhcpnmbhbhcgaaDoorYat
import Derived.Lib.AppendStr

/- ref02.Expand; and what both Expands refuse. -/
set_option maxRecDepth 100000
set_option linter.unusedVariables false
namespace Go.Proofs.YtkhcpnmbhbhcgaaDoor
open Go.RowKit Go.Joins
set_option maxHeartbeats 4000000 in
theorem refExpand_new (w : World) {a0 a1 : Option Addr} {n0 c0 n1 c1 : Nat} {key info : List UInt8} (hk : BS w a0 n0 c0 key) (hi : BS w a1 n1 c1 info) (h0 : n0 ≤ 549755813888) (h1 : n1 ≤ 549755813888) (N : Nat) (hN : N ≤ 8160) :
    Calls Tryd.prog 66 #[.slice a0 n0 c0, .slice a1 n1 c1, .int .i64 (N : Int)] w fun e w' => ∃ a c, e = .returned (.tuple #[.slice a N c, .int .i64 0]) ∧ BS w' a N c (expS key info N) ∧ Below w.heap.size w w' ∧ ∀ ad, a = some ad → w.heap.size ≤ ad.block := by
  have Hk := Lib.hid hk
  have Hi := Lib.hid hi
  have hil := Lib.hid (BS.len hi)
  clear hk hi
  have hE0 : ER w w key info 0 none 0 none 0 0 := ⟨OW_nil _ _ _ _, RS_nil w 1, Below.refl _ _⟩
  go_enter Tryd.func66, Tryd.ntmps66
  go_wp2
  go_loopw [8, 9, 10] (fun s8 s9 s10 wr => ∃ (i : Nat) (a : Option Addr) (c : Nat) (b : Option Addr) (m k : Nat), 32 * i < N + 32 ∧ s10 = .int .u8 (((i + 1) % 256 : Nat) : Int) ∧ s8 = .slice a (32 * i) c ∧ s9 = .slice b m k ∧ ER w wr key info i a c b m k) (fun s8 _ _ _ => 8192 - lenS s8)
  case atStart => exact ⟨0, _, _, _, _, _, by omega, rfl, rfl, rfl, hE0⟩
  case round =>
    obtain ⟨i, a, c, b, m, k, hi, rfl, rfl, rfl, hE⟩ := hrel
    clear hE0
    by_cases hlt : 32 * i < N
    · have hi254 : i ≤ 254 := by omega
      have hi1 : (((i + 1) % 256 : Nat) : Int) = (i : Int) + 1 := by omega
      rw [hi1]
      have hE' := Lib.hid hE
      have hw := hE.bel
      have hsz := hw.size
      have hll := lastS_le key info i
      have hml := BS.len hE.last
      have hlr := hE.last
      have hir := RS.below Hi.out hw (Nat.le_refl _)
      have hmac : macS key (lastS key info i ++ info ++ [UInt8.ofNat (i + 1)]) = lastS key info (i + 1) := rfl
      have Hmac := Lib.hid hmac
      have hb1 : Value.int .u8 ((i : Int) + 1) = B (UInt8.ofNat (i + 1)) := by simp [B]; omega
      have Hb1 := Lib.hid hb1
      have Hw := Lib.hid hw
      clear hE hmac hb1 hi1 hw
      go_upto_region 10 with (first
        | (go_at_call 20; refine (copy_any _ hlr (by omega)).mono ?_; rintro e w2 ⟨a2, c2, rfl, o2, B2⟩; have hi2 := RS.below hir B2 (Nat.le_refl _); have hs2 := B2.size)
        | (at_builtin; refine L_append tB o2 hi2 _ _ rfl rfl rfl rfl (by omega) (by unfold maxLen; omega) (by omega) ?_; intro a3 c3 w3 o3 g3; have hs3 := g3.size)
        | (at_builtin; refine L_append tB (o3.alloc _) (RS_one _ _ _ rfl) _ _ rfl rfl rfl rfl (by omega) (by unfold maxLen; omega) (by simp; omega) ?_; intro a4 c4 w4 o4 g4; have ho4 : BS w4 a4 (m + n1 + 1) c4 (lastS key info i ++ info ++ [UInt8.ofNat (i + 1)]) := (by have := o4.rs; rw [Hb1.out, show [B (UInt8.ofNat (i + 1))] = [UInt8.ofNat (i + 1)].map B from rfl, ← List.map_append, ← List.map_append] at this; exact this); have B4 : Below wr.heap.size wr w4 := ((B2.grown g3 hs2 (row_ge (fun ad ha => (o2.base_le ha).1) (Nat.le_refl _))).alloc (by omega) _).grown g4 (by simp; omega) (row_ge (fun ad ha => (o3.base_le ha).1) (Nat.le_refl _)); have hk4 := RS.below Hk.out (btrans Hw.out B4) (Nat.le_refl _); have hs4 := B4.size)
        | (go_at_call 29; refine (refMac_any _ hk4 ho4 (by omega) (by omega)).mono ?_; rintro e w5 ⟨a5, c5, rfl, o5, B5⟩; rw [Hmac.out] at o5; have B5w := btrans B4 B5; have own5 := hE'.out.own.below B5w (Nat.le_refl _); have hs5 := B5w.size))
      have hbw5 := btrans Hw.out B5w
      clear o2 o3 o4 g3 g4 B2 hi2 ho4 hk4
      go_upto_region 8 with (at_builtin; refine L_append tB own5 o5.rs _ _ rfl rfl rfl rfl (by omega) (by unfold maxLen; omega) (by omega) ?_; intro a7 c7 w7 o7 g7)
      have hl7 : BS w7 a5 32 c5 (lastS key info (i + 1)) := RS.grown o5.rs g7 (by
        intro ad had he
        obtain ⟨ad2, h1, h2⟩ := Option.map_eq_some_iff.1 he.symm
        have h3 := (hE'.out.own.base_le h1).2
        have h4 := (o5.base_le had).1
        omega)
      have hE7 : ER w w7 key info (i + 1) a7 c7 a5 32 c5 := by
        refine ⟨?_, hl7, hbw5.grown g7 hbw5.size (row_ge (fun ad ha => (hE'.out.own.base_le ha).1) (Nat.le_refl _))⟩
        show OW w7 w.heap.size 5 1 a7 (32 * i + 32) c7 ((outS key info i ++ lastS key info (i + 1)).map B)
        rw [List.map_append]; exact o7
      have HE7 := Lib.hid hE7
      clear o7 g7 hl7 o5 own5 hE7 B5 B5w B4 hbw5
      go_wp2
      go_roundw
      case rel => exact ⟨i + 1, a7, c7, a5, 32, c5, by omega, by congr 1, rfl, rfl, HE7.out⟩
      case measure => simp [lenS]; omega
    · have hiN : (N + 31) / 32 = i := by omega
      have hbs : BS wr a (32 * i) c (outS key info i) := hE.own.rs
      have hle : N ≤ 32 * i := by omega
      have HE := Lib.hid hE
      have hres : (outS key info i).take N = expS key info N := by unfold expS; rw [hiN]
      have Hres := Lib.hid hres
      obtain ⟨ht, hts⟩ := runB_h hbs N hle
      have Ht := Lib.hid ht
      clear hE hbs hres ht hiN
      go_wp2
      go_ret2
      exact ⟨a, c, rfl, by rw [← Hres.out]; exact Ht.out, HE.out.bel, fun ad ha => (HE.out.own.base_le ha).1⟩
theorem refExpand_any (w : World) {a0 a1 : Option Addr} {n0 c0 n1 c1 : Nat} {key info : List UInt8} (hk : BS w a0 n0 c0 key) (hi : BS w a1 n1 c1 info) (h0 : n0 ≤ 549755813888) (h1 : n1 ≤ 549755813888) (N : Nat) (hN : N ≤ 8160) :
    Calls Tryd.prog 66 #[.slice a0 n0 c0, .slice a1 n1 c1, .int .i64 (N : Int)] w fun e w' => ∃ a c, e = .returned (.tuple #[.slice a N c, .int .i64 0]) ∧ BS w' a N c (expS key info N) ∧ Below w.heap.size w w' :=
  (refExpand_new w hk hi h0 h1 N hN).mono fun e w' ⟨a, c, h1, h2, h3, _⟩ => ⟨a, c, h1, h2, h3⟩
theorem refExpand_neg (w : World) (v0 v1 : Value) (N : Int) (hN : N < 0) :
    Calls Tryd.prog 66 #[v0, v1, .int .i64 N] w fun e w' => e = .returned (.tuple #[.slice none 0 0, .int .i64 1]) ∧ w' = w := by
  go_enter Tryd.func66, Tryd.ntmps66
  go_wp2
  go_ret2
  exact ⟨rfl, rfl⟩
theorem refExpand_big (w : World) (v0 v1 : Value) (N : Int) (hN : 8160 < N) :
    Calls Tryd.prog 66 #[v0, v1, .int .i64 N] w fun e w' => e = .returned (.tuple #[.slice none 0 0, .int .i64 3]) ∧ w' = w := by
  go_enter Tryd.func66, Tryd.ntmps66
  go_wp2
  go_ret2
  exact ⟨rfl, rfl⟩
theorem expand_neg (w : World) (v0 v1 : Value) (N : Int) (hN : N < 0) :
    Calls Tryd.prog 75 #[v0, v1, .int .i64 N] w fun e w' => e = .returned (.tuple #[.slice none 0 0, .int .i64 1]) ∧ w' = w := by
  go_enter Tryd.func75, Tryd.ntmps75
  go_wp2
  go_ret2
  exact ⟨rfl, rfl⟩
theorem expand_big (w : World) (v0 v1 : Value) (N : Int) (hN : 8160 < N) :
    Calls Tryd.prog 75 #[v0, v1, .int .i64 N] w fun e w' => e = .returned (.tuple #[.slice none 0 0, .int .i64 3]) ∧ w' = w := by
  go_enter Tryd.func75, Tryd.ntmps75
  go_wp2
  go_ret2
  exact ⟨rfl, rfl⟩
end Go.Proofs.YtkhcpnmbhbhcgaaDoor

/- ring.Label and ref02.Label. -/
set_option maxRecDepth 100000
set_option linter.unusedVariables false
namespace Go.Proofs.YtkhcpnmbhbhcgaaDoor
open Go.RowKit Go.Joins
/-- what is expanded for a label -/
def labS (lab ctx : List UInt8) (n : Nat) : List UInt8 := [UInt8.ofNat (n / 256), UInt8.ofNat n, UInt8.ofNat (6 + lab.length)] ++ [116, 108, 115, 49, 51, 32] ++ lab ++ [UInt8.ofNat ctx.length] ++ ctx
theorem strCells_B (s : ByteArray) : Lib.strCells s = s.data.toList.map B := rfl
theorem uStr : Tryd.prog.underlying 9 = some .string := by kernel_rfl
theorem labS_cells (s S : ByteArray) (ctx : List UInt8) (n2 N : Nat) (hS : ({ data := #[116, 108, 115, 49, 51, 32] } : ByteArray) ++ s = S) (hN : N ≤ 8160) (hs : s.size ≤ 249) (h2 : ctx.length = n2) (hn2 : n2 ≤ 255) :
    #[Value.int .u8 ((N : Int) / 256), .int .u8 ((N : Int) % 256), .int .u8 (6 + (s.size : Int))].toList ++ Lib.strCells S ++ [.int .u8 (n2 : Int)] ++ ctx.map B = (labS s.data.toList ctx N).map B := by
  have hl : s.data.toList.length = s.size := by rw [Array.length_toList]; rfl
  have e1 : B (UInt8.ofNat (N / 256)) = .int .u8 ((N : Int) / 256) := by simp only [B, UInt8.toNat_ofNat']; congr 1; omega
  have e2 : B (UInt8.ofNat N) = .int .u8 ((N : Int) % 256) := by simp only [B, UInt8.toNat_ofNat']; congr 1
  have e3 : B (UInt8.ofNat (6 + s.size)) = .int .u8 (6 + (s.size : Int)) := by simp only [B, UInt8.toNat_ofNat']; congr 1; omega
  have e4 : B (UInt8.ofNat n2) = .int .u8 (n2 : Int) := by simp only [B, UInt8.toNat_ofNat']; congr 1; omega
  have e5 : Lib.strCells S = [116, 108, 115, 49, 51, 32].map B ++ s.data.toList.map B := by
    rw [← hS, strCells_B, ByteArray.data_append, Array.toList_append, List.map_append]
  unfold labS
  rw [hl, h2, e5, ← e1, ← e2, ← e3, ← e4]
  simp only [List.map_append, List.map_cons, List.map_nil, List.append_assoc]
set_option maxHeartbeats 2000000 in
theorem label_new (w : World) {a0 a2 : Option Addr} {n0 c0 n2 c2 : Nat} {key ctx : List UInt8} (s : ByteArray) (hk : BS w a0 n0 c0 key) (hc : BS w a2 n2 c2 ctx) (h0 : n0 ≤ 549755813888) (hs : s.size ≤ 249) (h2 : n2 ≤ 255) (hK : KT w) (N : Nat) (hN : N ≤ 8160) :
    Calls Tryd.prog 68 #[.slice a0 n0 c0, .string s, .slice a2 n2 c2, .int .i64 (N : Int)] w fun e w' => ∃ a, e = .returned (.tuple #[.slice a N N, .int .i64 0]) ∧ BS w' a N N (expS key (labS s.data.toList ctx N) N) ∧ Below w.heap.size w w' ∧ ∀ ad, a = some ad → w.heap.size ≤ ad.block := by
  have HK := Lib.hid hK
  have Hk := Lib.hid hk
  have Hc := Lib.hid hc
  have hcl := Lib.hid (BS.len hc)
  clear hK hk hc
  go_enter Tryd.func68, Tryd.ntmps68
  go_upto_region 7 with (fail)
  obtain ⟨S, hS⟩ : ∃ S, (({ data := #[116, 108, 115, 49, 51, 32] } : ByteArray) ++ s) = S := ⟨_, rfl⟩
  rw [hS]
  have hSs : S.size ≤ 255 := by rw [← hS, ByteArray.size_append]; show 6 + s.size ≤ 255; omega
  have hO := OW_made w w.heap.size 5 1 #[.int .u8 ((N : Int) / 256), .int .u8 ((N : Int) % 256), .int .u8 (6 + (s.size : Int))] 3 (Nat.le_refl _) rfl (by unfold maxLen; omega) (by simp [Value.oneCell'])
  have hcells := labS_cells s S ctx n2 N hS hN hs hcl.out h2
  have Hcells := Lib.hid hcells
  have HS := Lib.hid hS
  have hBa : Below w.heap.size w (w.alloc (.cells #[.int .u8 ((N : Int) / 256), .int .u8 ((N : Int) % 256), .int .u8 (6 + (s.size : Int))] 5)) := below_alloc w _
  have hza := hBa.size
  clear hcells hS
  go_wp2_with (first
    | (at_builtin; refine L_append_str tB hO _ uStr S _ _ rfl rfl rfl rfl (by omega) (by unfold maxLen; omega) hza ?_; intro a3 c3 w3 o3 g3; have B3 := hBa.grown g3 hza (row_ge (fun ad ha => (hO.base_le ha).1) (Nat.le_refl _)); have hs3 := B3.size)
    | (at_builtin; refine L_append tB (o3.alloc _) (RS_one _ _ _ rfl) _ _ rfl rfl rfl rfl (by omega) (by unfold maxLen; omega) (by simp; omega) ?_; intro a4 c4 w4 o4 g4; have B4 := (B3.alloc hs3 _).grown g4 (by simp; omega) (row_ge (fun ad ha => (o3.base_le ha).1) (Nat.le_refl _)); have hs4 := B4.size; have hc4 := RS.below Hc.out B4 (Nat.le_refl _))
    | (at_builtin; refine L_append tB o4 hc4 _ _ rfl rfl rfl rfl (by omega) (by unfold maxLen; omega) hs4 ?_; intro a5 c5 w5 o5 g5; have B5 := B4.grown g5 hs4 (row_ge (fun ad ha => (o4.base_le ha).1) (Nat.le_refl _)); have hl5 : BS w5 a5 (3 + S.size + 1 + n2) c5 (labS s.data.toList ctx N) := (by have := o5.rs; rw [Hcells.out] at this; exact this); have hk5 := RS.below Hk.out B5 (Nat.le_refl _); have hK5 := HK.out.below B5 (Nat.le_refl _))
    | (go_at_call 75; refine (expand_new _ hk5 hl5 h0 (by omega) hK5 N hN).mono ?_; rintro e w6 ⟨a6, rfl, hb6, B6, hn6⟩; have Hb6 := Lib.hid hb6; clear hb6))
  go_ret2
  exact ⟨a6, rfl, Hb6.out, btrans B5 B6, fun ad ha => Nat.le_trans B5.size (hn6 ad ha)⟩
theorem label_any (w : World) {a0 a2 : Option Addr} {n0 c0 n2 c2 : Nat} {key ctx : List UInt8} (s : ByteArray) (hk : BS w a0 n0 c0 key) (hc : BS w a2 n2 c2 ctx) (h0 : n0 ≤ 549755813888) (hs : s.size ≤ 249) (h2 : n2 ≤ 255) (hK : KT w) (N : Nat) (hN : N ≤ 8160) :
    Calls Tryd.prog 68 #[.slice a0 n0 c0, .string s, .slice a2 n2 c2, .int .i64 (N : Int)] w fun e w' => ∃ a, e = .returned (.tuple #[.slice a N N, .int .i64 0]) ∧ BS w' a N N (expS key (labS s.data.toList ctx N) N) ∧ Below w.heap.size w w' :=
  (label_new w s hk hc h0 hs h2 hK N hN).mono fun e w' ⟨a, h1, h2, h3, _⟩ => ⟨a, h1, h2, h3⟩
set_option maxHeartbeats 2000000 in
theorem refLabel_new (w : World) {a0 a2 : Option Addr} {n0 c0 n2 c2 : Nat} {key ctx : List UInt8} (s : ByteArray) (hk : BS w a0 n0 c0 key) (hc : BS w a2 n2 c2 ctx) (h0 : n0 ≤ 549755813888) (hs : s.size ≤ 249) (h2 : n2 ≤ 255) (N : Nat) (hN : N ≤ 8160) :
    Calls Tryd.prog 52 #[.slice a0 n0 c0, .string s, .slice a2 n2 c2, .int .i64 (N : Int)] w fun e w' => ∃ a c, e = .returned (.tuple #[.slice a N c, .int .i64 0]) ∧ BS w' a N c (expS key (labS s.data.toList ctx N) N) ∧ Below w.heap.size w w' ∧ ∀ ad, a = some ad → w.heap.size ≤ ad.block := by
  have Hk := Lib.hid hk
  have Hc := Lib.hid hc
  have hcl := Lib.hid (BS.len hc)
  clear hk hc
  obtain ⟨S, hS⟩ : ∃ S, (({ data := #[116, 108, 115, 49, 51, 32] } : ByteArray) ++ s) = S := ⟨_, rfl⟩
  have hcells := labS_cells s S ctx n2 N hS hN hs hcl.out h2
  rw [← hS, show Lib.strCells (({ data := #[116, 108, 115, 49, 51, 32] } : ByteArray) ++ s) = Lib.strCells { data := #[116, 108, 115, 49, 51, 32] } ++ Lib.strCells s by rw [strCells_B, ByteArray.data_append, Array.toList_append, List.map_append]; rfl, ← List.append_assoc] at hcells
  have Hcells := Lib.hid hcells
  clear hcells hS
  have hO := OW_made w w.heap.size 5 1 #[.int .u8 ((N : Int) / 256), .int .u8 ((N : Int) % 256), .int .u8 (6 + (s.size : Int))] 3 (Nat.le_refl _) rfl (by unfold maxLen; omega) (by simp [Value.oneCell'])
  have hBa : Below w.heap.size w (w.alloc (.cells #[.int .u8 ((N : Int) / 256), .int .u8 ((N : Int) % 256), .int .u8 (6 + (s.size : Int))] 5)) := below_alloc w _
  have hza := hBa.size
  have h6 : ({ data := #[116, 108, 115, 49, 51, 32] } : ByteArray).size ≤ 6 := Nat.le_refl _
  go_enter Tryd.func52, Tryd.ntmps52
  go_upto_region 6 with (at_builtin; refine L_append_str tB hO _ uStr _ _ _ rfl rfl rfl rfl (by omega) (by unfold maxLen; omega) hza ?_; intro a3 c3 w3 o3 g3)
  have B3 := hBa.grown g3 hza (row_ge (fun ad ha => (hO.base_le ha).1) (Nat.le_refl _))
  have hs3 := B3.size
  have o3' : OW w3 w.heap.size 5 1 a3 9 c3 (#[Value.int .u8 ((N : Int) / 256), .int .u8 ((N : Int) % 256), .int .u8 (6 + (s.size : Int))].toList ++ Lib.strCells { data := #[116, 108, 115, 49, 51, 32] }) := o3
  clear o3 g3 hBa hza hO h6
  go_wp2_with (first
    | (at_builtin; refine L_append_str tB o3' _ uStr s _ _ rfl rfl rfl rfl (by omega) (by unfold maxLen; omega) hs3 ?_; intro a4 c4 w4 o4 g4; have B4 := B3.grown g4 hs3 (row_ge (fun ad ha => (o3'.base_le ha).1) (Nat.le_refl _)); have hs4 := B4.size)
    | (at_builtin; refine L_append tB (o4.alloc _) (RS_one _ _ _ rfl) _ _ rfl rfl rfl rfl (by omega) (by unfold maxLen; omega) (by simp; omega) ?_; intro a5 c5 w5 o5 g5; have B5 := (B4.alloc hs4 _).grown g5 (by simp; omega) (row_ge (fun ad ha => (o4.base_le ha).1) (Nat.le_refl _)); have hs5 := B5.size; have hc5 := RS.below Hc.out B5 (Nat.le_refl _))
    | (at_builtin; refine L_append tB o5 hc5 _ _ rfl rfl rfl rfl (by omega) (by unfold maxLen; omega) hs5 ?_; intro a6 c6 w6 o6 g6; have B6 := B5.grown g6 hs5 (row_ge (fun ad ha => (o5.base_le ha).1) (Nat.le_refl _)); have hl6 : BS w6 a6 (9 + s.size + 1 + n2) c6 (labS s.data.toList ctx N) := (by have := o6.rs; rw [Hcells.out] at this; exact this); have hk6 := RS.below Hk.out B6 (Nat.le_refl _))
    | (go_at_call 66; refine (refExpand_new _ hk6 hl6 h0 (by omega) N hN).mono ?_; rintro e w7 ⟨a7, c7, rfl, hb7, B7, hn7⟩; have Hb7 := Lib.hid hb7; clear hb7))
  go_ret2
  exact ⟨a7, c7, rfl, Hb7.out, btrans B6 B7, fun ad ha => Nat.le_trans B6.size (hn7 ad ha)⟩
theorem refLabel_any (w : World) {a0 a2 : Option Addr} {n0 c0 n2 c2 : Nat} {key ctx : List UInt8} (s : ByteArray) (hk : BS w a0 n0 c0 key) (hc : BS w a2 n2 c2 ctx) (h0 : n0 ≤ 549755813888) (hs : s.size ≤ 249) (h2 : n2 ≤ 255) (N : Nat) (hN : N ≤ 8160) :
    Calls Tryd.prog 52 #[.slice a0 n0 c0, .string s, .slice a2 n2 c2, .int .i64 (N : Int)] w fun e w' => ∃ a c, e = .returned (.tuple #[.slice a N c, .int .i64 0]) ∧ BS w' a N c (expS key (labS s.data.toList ctx N) N) ∧ Below w.heap.size w w' :=
  (refLabel_new w s hk hc h0 hs h2 N hN).mono fun e w' ⟨a, c, h1, h2, h3, _⟩ => ⟨a, c, h1, h2, h3⟩
theorem label_neg (w : World) (v0 v2 : Value) (s : ByteArray) (N : Int) (hN : N < 0) :
    Calls Tryd.prog 68 #[v0, .string s, v2, .int .i64 N] w fun e w' => e = .returned (.tuple #[.slice none 0 0, .int .i64 1]) ∧ w' = w := by
  go_enter Tryd.func68, Tryd.ntmps68
  go_wp2_with (go_at_call 75; refine (expand_neg _ _ _ N hN).mono ?_; rintro e w1 ⟨rfl, rfl⟩)
  go_ret2
  exact ⟨rfl, rfl⟩
theorem label_big (w : World) (v0 v2 : Value) (s : ByteArray) (N : Int) (hN : 8160 < N) :
    Calls Tryd.prog 68 #[v0, .string s, v2, .int .i64 N] w fun e w' => e = .returned (.tuple #[.slice none 0 0, .int .i64 3]) ∧ w' = w := by
  go_enter Tryd.func68, Tryd.ntmps68
  go_wp2_with (go_at_call 75; refine (expand_big _ _ _ N hN).mono ?_; rintro e w1 ⟨rfl, rfl⟩)
  go_ret2
  exact ⟨rfl, rfl⟩
theorem label_long (w : World) (v0 : Value) {a2 : Option Addr} {n2 c2 : Nat} (s : ByteArray) (N : Int) (h0 : 0 ≤ N) (hN : N ≤ 8160) (hs : s.size ≤ 1000) (hn2 : n2 ≤ 1000) (h : 249 < s.size ∨ 255 < n2) :
    Calls Tryd.prog 68 #[v0, .string s, .slice a2 n2 c2, .int .i64 N] w fun e w' => e = .returned (.tuple #[.slice none 0 0, .int .i64 3]) ∧ w' = w := by
  go_enter Tryd.func68, Tryd.ntmps68
  rcases Nat.lt_or_ge 249 s.size with hs2 | hs2
  · go_wp2
    go_ret2
    exact ⟨rfl, rfl⟩
  · have h2 : 255 < n2 := by omega
    go_wp2
    go_ret2
    exact ⟨rfl, rfl⟩
theorem refLabel_neg (w : World) (v0 v2 : Value) (s : ByteArray) (N : Int) (hN : N < 0) :
    Calls Tryd.prog 52 #[v0, .string s, v2, .int .i64 N] w fun e w' => e = .returned (.tuple #[.slice none 0 0, .int .i64 1]) ∧ w' = w := by
  go_enter Tryd.func52, Tryd.ntmps52
  go_wp2_with (go_at_call 66; refine (refExpand_neg _ _ _ N hN).mono ?_; rintro e w1 ⟨rfl, rfl⟩)
  go_ret2
  exact ⟨rfl, rfl⟩
theorem refLabel_big (w : World) (v0 v2 : Value) (s : ByteArray) (N : Int) (hN : 8160 < N) :
    Calls Tryd.prog 52 #[v0, .string s, v2, .int .i64 N] w fun e w' => e = .returned (.tuple #[.slice none 0 0, .int .i64 3]) ∧ w' = w := by
  go_enter Tryd.func52, Tryd.ntmps52
  go_wp2_with (go_at_call 66; refine (refExpand_big _ _ _ N hN).mono ?_; rintro e w1 ⟨rfl, rfl⟩)
  go_ret2
  exact ⟨rfl, rfl⟩
theorem refLabel_long (w : World) (v0 : Value) {a2 : Option Addr} {n2 c2 : Nat} (s : ByteArray) (N : Int) (h0 : 0 ≤ N) (hN : N ≤ 8160) (hs : s.size ≤ 1000) (hn2 : n2 ≤ 1000) (h : 249 < s.size ∨ 255 < n2) :
    Calls Tryd.prog 52 #[v0, .string s, .slice a2 n2 c2, .int .i64 N] w fun e w' => e = .returned (.tuple #[.slice none 0 0, .int .i64 3]) ∧ w' = w := by
  go_enter Tryd.func52, Tryd.ntmps52
  rcases Nat.lt_or_ge 249 s.size with hs2 | hs2
  · go_wp2
    go_ret2
    exact ⟨rfl, rfl⟩
  · have h2 : 255 < n2 := by omega
    go_wp2
    go_ret2
    exact ⟨rfl, rfl⟩
end Go.Proofs.YtkhcpnmbhbhcgaaDoor
