/- (*salt.words).quarter. -/
import Derived.Test.YtlncnjcbgfeaoaaDoorYae
import Derived.Deep.RegionWith
set_option maxRecDepth 100000
set_option linter.unusedVariables false
namespace Go.Proofs.YtlncnjcbgfeaoaaDoor
open Go.RowKit
theorem AR.q {w : World} {g : Nat} {t : TypeId} {s : List Nat} {i j k l a b c d : Nat} (h : AR w g t (S4 s i j k l a b c d)) (hx : IX s i j k l) :
    w.cell? ⟨g, i, none⟩ = some (.int .u32 (a : Int)) ∧ w.cell? ⟨g, j, none⟩ = some (.int .u32 (b : Int)) ∧ w.cell? ⟨g, k, none⟩ = some (.int .u32 (c : Int)) ∧ w.cell? ⟨g, l, none⟩ = some (.int .u32 (d : Int)) :=
  ⟨h.cell i a (S4_i hx), h.cell j b (S4_j hx), h.cell k c (S4_k hx), h.cell l d (S4_l hx)⟩
set_option maxHeartbeats 8000000 in
theorem quarter_any (w : World) {g : Nat} {t : TypeId} {s : List Nat} {i j k l a0 b0 c0 d0 : Nat} (hA : AR w g t s) (hx : IX s i j k l) (ea : s[i]? = some a0) (eb : s[j]? = some b0) (ec : s[k]? = some c0) (ed : s[l]? = some d0)
    (ha0 : a0 < 4294967296) (hb0 : b0 < 4294967296) (hc0 : c0 < 4294967296) (hd0 : d0 < 4294967296) :
    Calls Tryd.prog 90 #[.pointer (some ⟨g, 0, none⟩), .int .i64 (i : Int), .int .i64 (j : Int), .int .i64 (k : Int), .int .i64 (l : Int)] w fun e w' => e = .returned (.tuple #[]) ∧ AR w' g t (quart s i j k l) ∧ w.grownBy w' (some g) := by
  have hq : quart s i j k l = S4 s i j k l (qr a0 b0 c0 d0).1 (qr a0 b0 c0 d0).2.1 (qr a0 b0 c0 d0).2.2.1 (qr a0 b0 c0 d0).2.2.2 := by
    unfold quart; simp only [List.getD_eq_getElem?_getD, ea, eb, ec, ed, Option.getD_some]
  have HQ := Lib.hid hq
  have HX := Lib.hid hx
  have hi := hx.hi
  have hj := hx.hj
  have hk := hx.hk
  have hl := hx.hl
  rw [← S4_self ea eb ec ed] at hA
  have HA0 := Lib.hid hA
  have HG0 := Lib.hid (World.grownBy.refl w (some g))
  clear hq hx ea eb ec ed hA
  go_enter Tryd.func90, Tryd.ntmps90
  obtain ⟨qi, qj, qk, ql⟩ := HA0.out.q HX.out
  have fi := HA0.out.fr i
  go_wp2
  clear qk ql
  go_region
  have hval : ((((a0 + b0) % 4294967296 : Nat)) : Int) = ((a0 : Int) + (b0 : Int)) % 4294967296 := by omega
  have hA := (HA0.out.set_ i ((a0 + b0) % 4294967296)).drew
  have hg := grown_drew (grown_set HG0.out i (.int .u32 ((((a0 + b0) % 4294967296 : Nat)) : Int)))
  rw [S4_seti HX.out] at hA
  rw [hval] at hA hg
  have hlt : (a0 + b0) % 4294967296 < 4294967296 := Nat.mod_lt _ (by decide)
  obtain ⟨a1, ea1⟩ : ∃ a1, (a0 + b0) % 4294967296 = a1 := ⟨_, rfl⟩
  rw [ea1] at hA hlt
  have Ea1 := Lib.hid ea1
  have ha1 := hlt
  have HA1 := Lib.hid hA
  have HG1 := Lib.hid hg
  clear hA hg hlt ea1 hval qi qj fi HA0 HG0
  generalize World.drew _ = W1 at *
  obtain ⟨qi, qj, qk, ql⟩ := HA1.out.q HX.out
  have fi := HA1.out.fr l
  go_upto_region 1 with (fail)
  clear qj qk
  have hxo : bits .xor .u32 (d0 : Int) (a1 : Int) = ((d0 ^^^ a1 : Nat) : Int) := u32_xor_nat _ _ hd0 ha1
  have hxl := xor_lt32 d0 a1 hd0 ha1
  refine (fun (hk : Hid (?P1 : Prop)) => ?main1) (Lib.hid ?rest1)
  case main1 =>
    go_region_with (go_at_call 100; (with_reducible refine (rl_16 _ _ hxl).mono ?_); rintro e w' ⟨rfl, rfl⟩)
    all_goals exact hk.out
  have hA := (HA1.out.set_ l (rotr (d0 ^^^ a1) 16)).drew
  have hg := grown_drew (grown_set HG1.out l (.int .u32 (((rotr (d0 ^^^ a1) 16 : Nat)) : Int)))
  rw [S4_setl] at hA
  have hlt : rotr (d0 ^^^ a1) 16 < 4294967296 := rotr_lt _ _ hxl
  obtain ⟨d2, ed2⟩ : ∃ d2, rotr (d0 ^^^ a1) 16 = d2 := ⟨_, rfl⟩
  rw [ed2] at hA hg hlt ⊢
  have Ed2 := Lib.hid ed2
  have hd2 := hlt
  have HA2 := Lib.hid hA
  have HG2 := Lib.hid hg
  clear hA hg hlt ed2 hxo hxl ql qi fi HA1 HG1
  generalize World.drew _ = W2 at *
  obtain ⟨qi, qj, qk, ql⟩ := HA2.out.q HX.out
  have fi := HA2.out.fr k
  go_upto_region 2 with (fail)
  clear qi qj
  go_region
  have hval : ((((c0 + d2) % 4294967296 : Nat)) : Int) = ((c0 : Int) + (d2 : Int)) % 4294967296 := by omega
  have hA := (HA2.out.set_ k ((c0 + d2) % 4294967296)).drew
  have hg := grown_drew (grown_set HG2.out k (.int .u32 ((((c0 + d2) % 4294967296 : Nat)) : Int)))
  rw [S4_setk HX.out] at hA
  rw [hval] at hA hg
  have hlt : (c0 + d2) % 4294967296 < 4294967296 := Nat.mod_lt _ (by decide)
  obtain ⟨c3, ec3⟩ : ∃ c3, (c0 + d2) % 4294967296 = c3 := ⟨_, rfl⟩
  rw [ec3] at hA hlt
  have Ec3 := Lib.hid ec3
  have hc3 := hlt
  have HA3 := Lib.hid hA
  have HG3 := Lib.hid hg
  clear hA hg hlt ec3 hval qk ql fi HA2 HG2
  generalize World.drew _ = W3 at *
  obtain ⟨qi, qj, qk, ql⟩ := HA3.out.q HX.out
  have fi := HA3.out.fr j
  go_upto_region 3 with (fail)
  clear qi ql
  have hxo : bits .xor .u32 (b0 : Int) (c3 : Int) = ((b0 ^^^ c3 : Nat) : Int) := u32_xor_nat _ _ hb0 hc3
  have hxl := xor_lt32 b0 c3 hb0 hc3
  refine (fun (hk : Hid (?P3 : Prop)) => ?main3) (Lib.hid ?rest3)
  case main3 =>
    go_region_with (go_at_call 100; (with_reducible refine (rl_12 _ _ hxl).mono ?_); rintro e w' ⟨rfl, rfl⟩)
    all_goals exact hk.out
  have hA := (HA3.out.set_ j (rotr (b0 ^^^ c3) 20)).drew
  have hg := grown_drew (grown_set HG3.out j (.int .u32 (((rotr (b0 ^^^ c3) 20 : Nat)) : Int)))
  rw [S4_setj HX.out] at hA
  have hlt : rotr (b0 ^^^ c3) 20 < 4294967296 := rotr_lt _ _ hxl
  obtain ⟨b4, eb4⟩ : ∃ b4, rotr (b0 ^^^ c3) 20 = b4 := ⟨_, rfl⟩
  rw [eb4] at hA hg hlt ⊢
  have Eb4 := Lib.hid eb4
  have hb4 := hlt
  have HA4 := Lib.hid hA
  have HG4 := Lib.hid hg
  clear hA hg hlt eb4 hxo hxl qj qk fi HA3 HG3
  generalize World.drew _ = W4 at *
  obtain ⟨qi, qj, qk, ql⟩ := HA4.out.q HX.out
  have fi := HA4.out.fr i
  go_upto_region 4 with (fail)
  clear qk ql
  go_region
  have hval : ((((a1 + b4) % 4294967296 : Nat)) : Int) = ((a1 : Int) + (b4 : Int)) % 4294967296 := by omega
  have hA := (HA4.out.set_ i ((a1 + b4) % 4294967296)).drew
  have hg := grown_drew (grown_set HG4.out i (.int .u32 ((((a1 + b4) % 4294967296 : Nat)) : Int)))
  rw [S4_seti HX.out] at hA
  rw [hval] at hA hg
  have hlt : (a1 + b4) % 4294967296 < 4294967296 := Nat.mod_lt _ (by decide)
  obtain ⟨a5, ea5⟩ : ∃ a5, (a1 + b4) % 4294967296 = a5 := ⟨_, rfl⟩
  rw [ea5] at hA hlt
  have Ea5 := Lib.hid ea5
  have ha5 := hlt
  have HA5 := Lib.hid hA
  have HG5 := Lib.hid hg
  clear hA hg hlt ea5 hval qi qj fi HA4 HG4
  generalize World.drew _ = W5 at *
  obtain ⟨qi, qj, qk, ql⟩ := HA5.out.q HX.out
  have fi := HA5.out.fr l
  go_upto_region 5 with (fail)
  clear qj qk
  have hxo : bits .xor .u32 (d2 : Int) (a5 : Int) = ((d2 ^^^ a5 : Nat) : Int) := u32_xor_nat _ _ hd2 ha5
  have hxl := xor_lt32 d2 a5 hd2 ha5
  refine (fun (hk : Hid (?P5 : Prop)) => ?main5) (Lib.hid ?rest5)
  case main5 =>
    go_region_with (go_at_call 100; (with_reducible refine (rl_8 _ _ hxl).mono ?_); rintro e w' ⟨rfl, rfl⟩)
    all_goals exact hk.out
  have hA := (HA5.out.set_ l (rotr (d2 ^^^ a5) 24)).drew
  have hg := grown_drew (grown_set HG5.out l (.int .u32 (((rotr (d2 ^^^ a5) 24 : Nat)) : Int)))
  rw [S4_setl] at hA
  have hlt : rotr (d2 ^^^ a5) 24 < 4294967296 := rotr_lt _ _ hxl
  obtain ⟨d6, ed6⟩ : ∃ d6, rotr (d2 ^^^ a5) 24 = d6 := ⟨_, rfl⟩
  rw [ed6] at hA hg hlt ⊢
  have Ed6 := Lib.hid ed6
  have hd6 := hlt
  have HA6 := Lib.hid hA
  have HG6 := Lib.hid hg
  clear hA hg hlt ed6 hxo hxl ql qi fi HA5 HG5
  generalize World.drew _ = W6 at *
  obtain ⟨qi, qj, qk, ql⟩ := HA6.out.q HX.out
  have fi := HA6.out.fr k
  go_upto_region 6 with (fail)
  clear qi qj
  go_region
  have hval : ((((c3 + d6) % 4294967296 : Nat)) : Int) = ((c3 : Int) + (d6 : Int)) % 4294967296 := by omega
  have hA := (HA6.out.set_ k ((c3 + d6) % 4294967296)).drew
  have hg := grown_drew (grown_set HG6.out k (.int .u32 ((((c3 + d6) % 4294967296 : Nat)) : Int)))
  rw [S4_setk HX.out] at hA
  rw [hval] at hA hg
  have hlt : (c3 + d6) % 4294967296 < 4294967296 := Nat.mod_lt _ (by decide)
  obtain ⟨c7, ec7⟩ : ∃ c7, (c3 + d6) % 4294967296 = c7 := ⟨_, rfl⟩
  rw [ec7] at hA hlt
  have Ec7 := Lib.hid ec7
  have hc7 := hlt
  have HA7 := Lib.hid hA
  have HG7 := Lib.hid hg
  clear hA hg hlt ec7 hval qk ql fi HA6 HG6
  generalize World.drew _ = W7 at *
  obtain ⟨qi, qj, qk, ql⟩ := HA7.out.q HX.out
  have fi := HA7.out.fr j
  go_upto_region 7 with (fail)
  clear qi ql
  have hxo : bits .xor .u32 (b4 : Int) (c7 : Int) = ((b4 ^^^ c7 : Nat) : Int) := u32_xor_nat _ _ hb4 hc7
  have hxl := xor_lt32 b4 c7 hb4 hc7
  refine (fun (hk : Hid (?P7 : Prop)) => ?main7) (Lib.hid ?rest7)
  case main7 =>
    go_region_with (go_at_call 100; (with_reducible refine (rl_7 _ _ hxl).mono ?_); rintro e w' ⟨rfl, rfl⟩)
    all_goals exact hk.out
  have hA := (HA7.out.set_ j (rotr (b4 ^^^ c7) 25)).drew
  have hg := grown_drew (grown_set HG7.out j (.int .u32 (((rotr (b4 ^^^ c7) 25 : Nat)) : Int)))
  rw [S4_setj HX.out] at hA
  have hlt : rotr (b4 ^^^ c7) 25 < 4294967296 := rotr_lt _ _ hxl
  obtain ⟨b8, eb8⟩ : ∃ b8, rotr (b4 ^^^ c7) 25 = b8 := ⟨_, rfl⟩
  rw [eb8] at hA hg hlt ⊢
  have Eb8 := Lib.hid eb8
  have hb8 := hlt
  have HA8 := Lib.hid hA
  have HG8 := Lib.hid hg
  clear hA hg hlt eb8 hxo hxl qj qk fi HA7 HG7
  generalize World.drew _ = W8 at *
  go_wp2
  go_end0
  refine ⟨rfl, ?_, HG8.out⟩
  rw [HQ.out]
  have hqr : qr a0 b0 c0 d0 = (a5, b8, c7, d6) := by
    unfold qr
    simp only [Ea1.out, Ed2.out, Ec3.out, Eb4.out, Ea5.out, Ed6.out, Ec7.out, Eb8.out]
  rw [hqr]
  exact HA8.out
end Go.Proofs.YtlncnjcbgfeaoaaDoor
