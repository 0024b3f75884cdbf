/- ring.Label and ref02.Label. -/
import Derived.Test.YtlncnjcbgfeaoaaDoorS6
import Derived.Lib.AppendStr
set_option maxRecDepth 100000
set_option linter.unusedVariables false
namespace Go.Proofs.YtlncnjcbgfeaoaaDoor
open Go.RowKit Go.Joins
/-- what is expanded for a label -/
def labS (lab ctx : List UInt8) (n : Nat) : List UInt8 := [UInt8.ofNat (n / 256), UInt8.ofNat n, UInt8.ofNat (6 + lab.length)] ++ [116, 108, 115, 49, 51, 32] ++ lab ++ [UInt8.ofNat ctx.length] ++ ctx
theorem strCells_B (s : ByteArray) : Lib.strCells s = s.data.toList.map B := rfl
theorem uStr : Tryd.prog.underlying 9 = some .string := by kernel_rfl
theorem labS_cells (s S : ByteArray) (ctx : List UInt8) (n2 N : Nat) (hS : ({ data := #[116, 108, 115, 49, 51, 32] } : ByteArray) ++ s = S) (hN : N ≤ 8160) (hs : s.size ≤ 249) (h2 : ctx.length = n2) (hn2 : n2 ≤ 255) :
    #[Value.int .u8 ((N : Int) / 256), .int .u8 ((N : Int) % 256), .int .u8 (6 + (s.size : Int))].toList ++ Lib.strCells S ++ [.int .u8 (n2 : Int)] ++ ctx.map B = (labS s.data.toList ctx N).map B := by
  have hl : s.data.toList.length = s.size := by rw [Array.length_toList]; rfl
  have e1 : B (UInt8.ofNat (N / 256)) = .int .u8 ((N : Int) / 256) := by simp only [B, UInt8.toNat_ofNat']; congr 1; omega
  have e2 : B (UInt8.ofNat N) = .int .u8 ((N : Int) % 256) := by simp only [B, UInt8.toNat_ofNat']; congr 1
  have e3 : B (UInt8.ofNat (6 + s.size)) = .int .u8 (6 + (s.size : Int)) := by simp only [B, UInt8.toNat_ofNat']; congr 1; omega
  have e4 : B (UInt8.ofNat n2) = .int .u8 (n2 : Int) := by simp only [B, UInt8.toNat_ofNat']; congr 1; omega
  have e5 : Lib.strCells S = [116, 108, 115, 49, 51, 32].map B ++ s.data.toList.map B := by
    rw [← hS, strCells_B, ByteArray.data_append, Array.toList_append, List.map_append]
  unfold labS
  rw [hl, h2, e5, ← e1, ← e2, ← e3, ← e4]
  simp only [List.map_append, List.map_cons, List.map_nil, List.append_assoc]
set_option maxHeartbeats 2000000 in
theorem label_new (w : World) {a0 a2 : Option Addr} {n0 c0 n2 c2 : Nat} {key ctx : List UInt8} (s : ByteArray) (hk : BS w a0 n0 c0 key) (hc : BS w a2 n2 c2 ctx) (h0 : n0 ≤ 549755813888) (hs : s.size ≤ 249) (h2 : n2 ≤ 255) (hK : KT w) (N : Nat) (hN : N ≤ 8160) :
    Calls Tryd.prog 31 #[.slice a0 n0 c0, .string s, .slice a2 n2 c2, .int .i64 (N : Int)] w fun e w' => ∃ a, e = .returned (.tuple #[.slice a N N, .int .i64 0]) ∧ BS w' a N N (expS key (labS s.data.toList ctx N) N) ∧ Below w.heap.size w w' ∧ ∀ ad, a = some ad → w.heap.size ≤ ad.block := by
  have HK := Lib.hid hK
  have Hk := Lib.hid hk
  have Hc := Lib.hid hc
  have hcl := Lib.hid (BS.len hc)
  clear hK hk hc
  go_enter Tryd.func31, Tryd.ntmps31
  go_upto_region 7 with (fail)
  obtain ⟨S, hS⟩ : ∃ S, (({ data := #[116, 108, 115, 49, 51, 32] } : ByteArray) ++ s) = S := ⟨_, rfl⟩
  rw [hS]
  have hSs : S.size ≤ 255 := by rw [← hS, ByteArray.size_append]; show 6 + s.size ≤ 255; omega
  have hO := OW_made w w.heap.size 5 1 #[.int .u8 ((N : Int) / 256), .int .u8 ((N : Int) % 256), .int .u8 (6 + (s.size : Int))] 3 (Nat.le_refl _) rfl (by unfold maxLen; omega) (by simp [Value.oneCell'])
  have hcells := labS_cells s S ctx n2 N hS hN hs hcl.out h2
  have Hcells := Lib.hid hcells
  have HS := Lib.hid hS
  have hBa : Below w.heap.size w (w.alloc (.cells #[.int .u8 ((N : Int) / 256), .int .u8 ((N : Int) % 256), .int .u8 (6 + (s.size : Int))] 5)) := below_alloc w _
  have hza := hBa.size
  clear hcells hS
  go_wp2_with (first
    | (at_builtin; refine L_append_str tB hO _ uStr S _ _ rfl rfl rfl rfl (by omega) (by unfold maxLen; omega) hza ?_; intro a3 c3 w3 o3 g3; have B3 := hBa.grown g3 hza (row_ge (fun ad ha => (hO.base_le ha).1) (Nat.le_refl _)); have hs3 := B3.size)
    | (at_builtin; refine L_append tB (o3.alloc _) (RS_one _ _ _ rfl) _ _ rfl rfl rfl rfl (by omega) (by unfold maxLen; omega) (by simp; omega) ?_; intro a4 c4 w4 o4 g4; have B4 := (B3.alloc hs3 _).grown g4 (by simp; omega) (row_ge (fun ad ha => (o3.base_le ha).1) (Nat.le_refl _)); have hs4 := B4.size; have hc4 := RS.below Hc.out B4 (Nat.le_refl _))
    | (at_builtin; refine L_append tB o4 hc4 _ _ rfl rfl rfl rfl (by omega) (by unfold maxLen; omega) hs4 ?_; intro a5 c5 w5 o5 g5; have B5 := B4.grown g5 hs4 (row_ge (fun ad ha => (o4.base_le ha).1) (Nat.le_refl _)); have hl5 : BS w5 a5 (3 + S.size + 1 + n2) c5 (labS s.data.toList ctx N) := (by have := o5.rs; rw [Hcells.out] at this; exact this); have hk5 := RS.below Hk.out B5 (Nat.le_refl _); have hK5 := HK.out.below B5 (Nat.le_refl _))
    | (go_at_call 51; refine (expand_new _ hk5 hl5 h0 (by omega) hK5 N hN).mono ?_; rintro e w6 ⟨a6, rfl, hb6, B6, hn6⟩; have Hb6 := Lib.hid hb6; clear hb6))
  go_ret2
  exact ⟨a6, rfl, Hb6.out, btrans B5 B6, fun ad ha => Nat.le_trans B5.size (hn6 ad ha)⟩
theorem label_any (w : World) {a0 a2 : Option Addr} {n0 c0 n2 c2 : Nat} {key ctx : List UInt8} (s : ByteArray) (hk : BS w a0 n0 c0 key) (hc : BS w a2 n2 c2 ctx) (h0 : n0 ≤ 549755813888) (hs : s.size ≤ 249) (h2 : n2 ≤ 255) (hK : KT w) (N : Nat) (hN : N ≤ 8160) :
    Calls Tryd.prog 31 #[.slice a0 n0 c0, .string s, .slice a2 n2 c2, .int .i64 (N : Int)] w fun e w' => ∃ a, e = .returned (.tuple #[.slice a N N, .int .i64 0]) ∧ BS w' a N N (expS key (labS s.data.toList ctx N) N) ∧ Below w.heap.size w w' :=
  (label_new w s hk hc h0 hs h2 hK N hN).mono fun e w' ⟨a, h1, h2, h3, _⟩ => ⟨a, h1, h2, h3⟩
set_option maxHeartbeats 2000000 in
theorem refLabel_new (w : World) {a0 a2 : Option Addr} {n0 c0 n2 c2 : Nat} {key ctx : List UInt8} (s : ByteArray) (hk : BS w a0 n0 c0 key) (hc : BS w a2 n2 c2 ctx) (h0 : n0 ≤ 549755813888) (hs : s.size ≤ 249) (h2 : n2 ≤ 255) (N : Nat) (hN : N ≤ 8160) :
    Calls Tryd.prog 30 #[.slice a0 n0 c0, .string s, .slice a2 n2 c2, .int .i64 (N : Int)] w fun e w' => ∃ a c, e = .returned (.tuple #[.slice a N c, .int .i64 0]) ∧ BS w' a N c (expS key (labS s.data.toList ctx N) N) ∧ Below w.heap.size w w' ∧ ∀ ad, a = some ad → w.heap.size ≤ ad.block := by
  have Hk := Lib.hid hk
  have Hc := Lib.hid hc
  have hcl := Lib.hid (BS.len hc)
  clear hk hc
  obtain ⟨S, hS⟩ : ∃ S, (({ data := #[116, 108, 115, 49, 51, 32] } : ByteArray) ++ s) = S := ⟨_, rfl⟩
  have hcells := labS_cells s S ctx n2 N hS hN hs hcl.out h2
  rw [← hS, show Lib.strCells (({ data := #[116, 108, 115, 49, 51, 32] } : ByteArray) ++ s) = Lib.strCells { data := #[116, 108, 115, 49, 51, 32] } ++ Lib.strCells s by rw [strCells_B, ByteArray.data_append, Array.toList_append, List.map_append]; rfl, ← List.append_assoc] at hcells
  have Hcells := Lib.hid hcells
  clear hcells hS
  have hO := OW_made w w.heap.size 5 1 #[.int .u8 ((N : Int) / 256), .int .u8 ((N : Int) % 256), .int .u8 (6 + (s.size : Int))] 3 (Nat.le_refl _) rfl (by unfold maxLen; omega) (by simp [Value.oneCell'])
  have hBa : Below w.heap.size w (w.alloc (.cells #[.int .u8 ((N : Int) / 256), .int .u8 ((N : Int) % 256), .int .u8 (6 + (s.size : Int))] 5)) := below_alloc w _
  have hza := hBa.size
  have h6 : ({ data := #[116, 108, 115, 49, 51, 32] } : ByteArray).size ≤ 6 := Nat.le_refl _
  go_enter Tryd.func30, Tryd.ntmps30
  go_upto_region 6 with (at_builtin; refine L_append_str tB hO _ uStr _ _ _ rfl rfl rfl rfl (by omega) (by unfold maxLen; omega) hza ?_; intro a3 c3 w3 o3 g3)
  have B3 := hBa.grown g3 hza (row_ge (fun ad ha => (hO.base_le ha).1) (Nat.le_refl _))
  have hs3 := B3.size
  have o3' : OW w3 w.heap.size 5 1 a3 9 c3 (#[Value.int .u8 ((N : Int) / 256), .int .u8 ((N : Int) % 256), .int .u8 (6 + (s.size : Int))].toList ++ Lib.strCells { data := #[116, 108, 115, 49, 51, 32] }) := o3
  clear o3 g3 hBa hza hO h6
  go_wp2_with (first
    | (at_builtin; refine L_append_str tB o3' _ uStr s _ _ rfl rfl rfl rfl (by omega) (by unfold maxLen; omega) hs3 ?_; intro a4 c4 w4 o4 g4; have B4 := B3.grown g4 hs3 (row_ge (fun ad ha => (o3'.base_le ha).1) (Nat.le_refl _)); have hs4 := B4.size)
    | (at_builtin; refine L_append tB (o4.alloc _) (RS_one _ _ _ rfl) _ _ rfl rfl rfl rfl (by omega) (by unfold maxLen; omega) (by simp; omega) ?_; intro a5 c5 w5 o5 g5; have B5 := (B4.alloc hs4 _).grown g5 (by simp; omega) (row_ge (fun ad ha => (o4.base_le ha).1) (Nat.le_refl _)); have hs5 := B5.size; have hc5 := RS.below Hc.out B5 (Nat.le_refl _))
    | (at_builtin; refine L_append tB o5 hc5 _ _ rfl rfl rfl rfl (by omega) (by unfold maxLen; omega) hs5 ?_; intro a6 c6 w6 o6 g6; have B6 := B5.grown g6 hs5 (row_ge (fun ad ha => (o5.base_le ha).1) (Nat.le_refl _)); have hl6 : BS w6 a6 (9 + s.size + 1 + n2) c6 (labS s.data.toList ctx N) := (by have := o6.rs; rw [Hcells.out] at this; exact this); have hk6 := RS.below Hk.out B6 (Nat.le_refl _))
    | (go_at_call 50; refine (refExpand_new _ hk6 hl6 h0 (by omega) N hN).mono ?_; rintro e w7 ⟨a7, c7, rfl, hb7, B7, hn7⟩; have Hb7 := Lib.hid hb7; clear hb7))
  go_ret2
  exact ⟨a7, c7, rfl, Hb7.out, btrans B6 B7, fun ad ha => Nat.le_trans B6.size (hn7 ad ha)⟩
theorem refLabel_any (w : World) {a0 a2 : Option Addr} {n0 c0 n2 c2 : Nat} {key ctx : List UInt8} (s : ByteArray) (hk : BS w a0 n0 c0 key) (hc : BS w a2 n2 c2 ctx) (h0 : n0 ≤ 549755813888) (hs : s.size ≤ 249) (h2 : n2 ≤ 255) (N : Nat) (hN : N ≤ 8160) :
    Calls Tryd.prog 30 #[.slice a0 n0 c0, .string s, .slice a2 n2 c2, .int .i64 (N : Int)] w fun e w' => ∃ a c, e = .returned (.tuple #[.slice a N c, .int .i64 0]) ∧ BS w' a N c (expS key (labS s.data.toList ctx N) N) ∧ Below w.heap.size w w' :=
  (refLabel_new w s hk hc h0 hs h2 N hN).mono fun e w' ⟨a, c, h1, h2, h3, _⟩ => ⟨a, c, h1, h2, h3⟩
theorem label_neg (w : World) (v0 v2 : Value) (s : ByteArray) (N : Int) (hN : N < 0) :
    Calls Tryd.prog 31 #[v0, .string s, v2, .int .i64 N] w fun e w' => e = .returned (.tuple #[.slice none 0 0, .int .i64 1]) ∧ w' = w := by
  go_enter Tryd.func31, Tryd.ntmps31
  go_wp2_with (go_at_call 51; refine (expand_neg _ _ _ N hN).mono ?_; rintro e w1 ⟨rfl, rfl⟩)
  go_ret2
  exact ⟨rfl, rfl⟩
theorem label_big (w : World) (v0 v2 : Value) (s : ByteArray) (N : Int) (hN : 8160 < N) :
    Calls Tryd.prog 31 #[v0, .string s, v2, .int .i64 N] w fun e w' => e = .returned (.tuple #[.slice none 0 0, .int .i64 3]) ∧ w' = w := by
  go_enter Tryd.func31, Tryd.ntmps31
  go_wp2_with (go_at_call 51; refine (expand_big _ _ _ N hN).mono ?_; rintro e w1 ⟨rfl, rfl⟩)
  go_ret2
  exact ⟨rfl, rfl⟩
theorem label_long (w : World) (v0 : Value) {a2 : Option Addr} {n2 c2 : Nat} (s : ByteArray) (N : Int) (h0 : 0 ≤ N) (hN : N ≤ 8160) (hs : s.size ≤ 1000) (hn2 : n2 ≤ 1000) (h : 249 < s.size ∨ 255 < n2) :
    Calls Tryd.prog 31 #[v0, .string s, .slice a2 n2 c2, .int .i64 N] w fun e w' => e = .returned (.tuple #[.slice none 0 0, .int .i64 3]) ∧ w' = w := by
  go_enter Tryd.func31, Tryd.ntmps31
  rcases Nat.lt_or_ge 249 s.size with hs2 | hs2
  · go_wp2
    go_ret2
    exact ⟨rfl, rfl⟩
  · have h2 : 255 < n2 := by omega
    go_wp2
    go_ret2
    exact ⟨rfl, rfl⟩
theorem refLabel_neg (w : World) (v0 v2 : Value) (s : ByteArray) (N : Int) (hN : N < 0) :
    Calls Tryd.prog 30 #[v0, .string s, v2, .int .i64 N] w fun e w' => e = .returned (.tuple #[.slice none 0 0, .int .i64 1]) ∧ w' = w := by
  go_enter Tryd.func30, Tryd.ntmps30
  go_wp2_with (go_at_call 50; refine (refExpand_neg _ _ _ N hN).mono ?_; rintro e w1 ⟨rfl, rfl⟩)
  go_ret2
  exact ⟨rfl, rfl⟩
theorem refLabel_big (w : World) (v0 v2 : Value) (s : ByteArray) (N : Int) (hN : 8160 < N) :
    Calls Tryd.prog 30 #[v0, .string s, v2, .int .i64 N] w fun e w' => e = .returned (.tuple #[.slice none 0 0, .int .i64 3]) ∧ w' = w := by
  go_enter Tryd.func30, Tryd.ntmps30
  go_wp2_with (go_at_call 50; refine (refExpand_big _ _ _ N hN).mono ?_; rintro e w1 ⟨rfl, rfl⟩)
  go_ret2
  exact ⟨rfl, rfl⟩
theorem refLabel_long (w : World) (v0 : Value) {a2 : Option Addr} {n2 c2 : Nat} (s : ByteArray) (N : Int) (h0 : 0 ≤ N) (hN : N ≤ 8160) (hs : s.size ≤ 1000) (hn2 : n2 ≤ 1000) (h : 249 < s.size ∨ 255 < n2) :
    Calls Tryd.prog 30 #[v0, .string s, .slice a2 n2 c2, .int .i64 N] w fun e w' => e = .returned (.tuple #[.slice none 0 0, .int .i64 3]) ∧ w' = w := by
  go_enter Tryd.func30, Tryd.ntmps30
  rcases Nat.lt_or_ge 249 s.size with hs2 | hs2
  · go_wp2
    go_ret2
    exact ⟨rfl, rfl⟩
  · have h2 : 255 < n2 := by omega
    go_wp2
    go_ret2
    exact ⟨rfl, rfl⟩
end Go.Proofs.YtlncnjcbgfeaoaaDoor
