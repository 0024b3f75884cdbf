/- (*greet.Machine).say. -/
import Derived.Test.YtkhcpnmbhbhcgaaDoorYax
import Derived.Test.YtkhcpnmbhbhcgaaDoorYae
import Derived.Deep.RegionHeld3
set_option maxRecDepth 100000
set_option linter.unusedVariables false
namespace Go.Proofs.YtkhcpnmbhbhcgaaDoor
open Go.RowKit
/-- a message is said -/
def sayS (lv kind : Nat) (p : List UInt8) (S : MS) : MS :=
  { S with said := S.said ++ gmsg kind p, o0 := if lv = 0 then S.o0 ++ gmsg kind p else S.o0, o1 := if lv = 0 then S.o1 else S.o1 ++ gmsg kind p }
theorem Stp.top0 {r : Nat} {w w' : World} {role role' : Nat → Nat} (h : Stp r w w' role role') : ∀ k, w'.heap.size ≤ k → role' k = 0 := h.top
theorem OX.len {w : World} {role : Nat → Nat} {r : Nat} {e : TypeId} {a : Option Addr} {n c : Nat} {xs : List UInt8} (h : OX w role r e a n c (xs.map B)) : n = xs.length := by
  have := h.rs.len
  rw [List.length_map, Nat.mul_one] at this
  exact this.symm
set_option maxHeartbeats 2000000 in
theorem gsay_0 (w : World) {role : Nat → Nat} {g : Nat} {S : MS} {A : MA} (hM : GM w role g S A) (kind : Nat) (hk : kind < 256) {a : Option Addr} {n c : Nat} {p : List UInt8} (hx : BS w a n c p) (hn : n ≤ 1099511627776) (hs : S.said.length ≤ 1099511627776) (ho : S.o0.length ≤ 1099511627776) :
    Calls Tryd.prog 45 #[.pointer (some ⟨g, 0, none⟩), .int .i64 0, .int .u8 (kind : Int), .slice a n c] w fun e w' => e = .returned (.tuple #[]) ∧ ∃ role' A', GM w' role' g (sayS 0 kind p S) A' ∧ Kpt w w' role role' := by
  have hpl := BS.len hx
  have Hmsg := Lib.hid (message_any w kind hk hx hn)
  obtain ⟨bs, hbs⟩ : ∃ bs, gmsg kind p = bs := ⟨_, rfl⟩
  have hbl : bs.length = 4 + n := by rw [← hbs, gmsg_len, hpl]
  have hsay : sayS 0 kind p S = { S with said := S.said ++ bs, o0 := S.o0 ++ bs } := by unfold sayS; rw [hbs]; rfl
  rw [hsay]
  rw [hbs] at Hmsg
  have HM := Lib.hid hM
  clear hx hM hsay hbs
  go_enter Tryd.func45, Tryd.ntmps45
  go_upto_region 1 with (go_at_call 44; refine Hmsg.out.mono ?_; rintro x w1 ⟨a1, c1, rfl, o1, B1⟩)
  have hM1 := HM.out.below B1
  have hOk := hM1.ok
  have hk1 := Below.kpt B1 HM.out.gp.top
  have HT := Lib.hid HM.out.gp.top
  have hb1 : BS w1 a1 (4 + n) c1 bs := o1.rs
  have q36 : w1.cell? ⟨g, 36, none⟩ = some (.slice A.said.a A.said.n A.said.c) := (hM1.row.cells hOk).g36
  have hsl : A.said.n ≤ 1099511627776 := by rw [hM1.gp.said.len]; exact hs
  have HM1 := Lib.hid hM1
  have HK1 := Lib.hid hk1
  have HB1 := Lib.hid hb1
  have HO1 := Lib.hid o1
  clear hM1 hk1 hb1 o1 B1 Hmsg HM
  go_upto_region 2 with (first
    | (at_builtin; refine L_append_X tB HM1.out.gp.said HB1.out _ _ rfl rfl rfl rfl (by omega) (by unfold maxLen; omega) HM1.out.gp.top ?_; intro a2 c2 w2 role2 ho2 hst2; have hr2 := HM1.out.row.keep (hst2.blk g HM1.out.gp.gl (by rw [HM1.out.gp.rg]; decide)); have p36 : w2.cell? ⟨g, 36, none⟩ = some (.slice A.said.a A.said.n A.said.c) := (hr2.cells hOk).g36; have f36 := hr2.fr 36))
  have hgp2 := HM1.out.gp.s_said hst2 (x := S.said ++ bs) (by rw [List.map_append]; exact ho2)
  have hr3 := hr2.s_said hOk a2 (A.said.n + (4 + n)) c2 { S with said := S.said ++ bs } rfl
  have hgp3 := hgp2.cell 36 (.slice a2 (A.said.n + (4 + n)) c2)
  have hk3 := (HK1.out.trans (hst2.kpt (by decide))).trans (kpt_cell 36 (.slice a2 (A.said.n + (4 + n)) c2) hgp2.rg hst2.top)
  obtain ⟨A3, hA3⟩ : ∃ A3 : MA, { A with said := ⟨a2, A.said.n + (4 + n), c2⟩ } = A3 := ⟨_, rfl⟩
  obtain ⟨S3, hS3⟩ : ∃ S3 : MS, { S with said := S.said ++ bs } = S3 := ⟨_, rfl⟩
  have hFo : S3.o0 = S.o0 := by rw [← hS3]
  have hOk3 : S3.Ok := by rw [← hS3]; exact ⟨hOk.rnd, hOk.hand, hOk.k0c, hOk.k0s, hOk.k1c, hOk.k1s, hOk.k2c, hOk.k2s⟩
  have hb3 : BS w2 a1 (4 + n) c1 bs := RS.keepb HB1.out fun ad ha hl => hst2.blk _ hl (by rw [HT.out _ (HO1.out.base_le ha).1]; decide)
  rw [hA3, hS3] at hr3 hgp3
  have HBS := Lib.hid hb3
  have HKw := Lib.hid hk3
  obtain ⟨V, hV⟩ : ∃ V, (w2.setCell ⟨g, 36, none⟩ (.slice a2 (A.said.n + (4 + n)) c2)).drew = V := ⟨_, rfl⟩
  have hrV : MZ V g S3 A3 := by rw [← hV]; exact hr3
  have hgV : GP V role2 g S3 A3 := by rw [← hV]; exact hgp3.drew
  have hkV : Kpt w V role role2 := by rw [← hV]; exact hk3.drew
  have h2 := RS.grown hb3 (grownBy_setCell w2 ⟨g, 36, none⟩ (.slice a2 (A.said.n + (4 + n)) c2)) (fun ad ha he => by
    have h1 := (HO1.out.base_le ha).1
    injection he with he
    have h3 := HT.out _ h1
    rw [he] at h3
    have h5 := HM1.out.gp.rg
    simp only at h3
    rw [h3] at h5; cases h5)
  have hbV : BS V a1 (4 + n) c1 bs := by rw [← hV]; exact h2
  have qI : V.cell? ⟨g, 37, none⟩ = some (.slice A3.o0.a A3.o0.n A3.o0.c) := (hrV.cells hOk3).g37
  have hol : A3.o0.n ≤ 1099511627776 := by rw [hgV.o0.len, hFo]; exact ho
  have HRV := Lib.hid hrV
  have HGV := Lib.hid hgV
  have HKV := Lib.hid hkV
  have HBV := Lib.hid hbV
  have H3 := Lib.hid hS3
  clear hr3 hgp3 hk3 hb3 hgp2 hr2 p36 f36 h2 hrV hgV hkV hbV ho2 hst2 HBS HKw q36 HB1 hA3 HK1 hS3
  refine wp_region_held_drew (S := fun _ => True) (by kernel_rfl) trivial (fun hHeld => ?_)
  rw [hV]
  refine wpAnyH_take (i := 0) (v := .pointer (some ⟨g, 0, none⟩)) rfl (by kernel_rfl) (by kernel_rfl) (by kernel_rfl) (fun _ _ _ h => h) (Or.inl ⟨by rfl, fun w h => by go_simp⟩) hHeld ?_
  try simp only [Act.put, List.getElem_toArray, List.getElem_cons_zero, List.setIfInBounds_toArray, List.set_cons_zero, List.set_cons_succ]
  refine wpAnyH_take (i := 1) (v := .int .i64 0) rfl (by kernel_rfl) (by kernel_rfl) (by kernel_rfl) (fun _ _ _ h => h) (Or.inl ⟨by rfl, fun w h => by go_simp⟩) hHeld ?_
  try simp only [Act.put, List.getElem_toArray, List.getElem_cons_succ, List.getElem_cons_zero, List.setIfInBounds_toArray, List.set_cons_zero, List.set_cons_succ]
  refine wpAnyH_take (i := 2) (v := .pointer (some ⟨g, 0, none⟩)) rfl (by kernel_rfl) (by kernel_rfl) (by kernel_rfl) (fun _ _ _ h => h) (Or.inl ⟨by rfl, fun w h => by go_simp⟩) hHeld ?_
  try simp only [Act.put, List.getElem_toArray, List.getElem_cons_succ, List.getElem_cons_zero, List.setIfInBounds_toArray, List.set_cons_zero, List.set_cons_succ]
  refine wpAnyH_take (i := 3) (v := .int .i64 0) rfl (by kernel_rfl) (by kernel_rfl) (by kernel_rfl) (fun _ _ _ h => h) (Or.inl ⟨by rfl, fun w h => by go_simp⟩) hHeld ?_
  try simp only [Act.put, List.getElem_toArray, List.getElem_cons_succ, List.getElem_cons_zero, List.setIfInBounds_toArray, List.set_cons_zero, List.set_cons_succ]
  refine wpAnyH_take (i := 4) (v := .pointer (some ⟨g, 0, none⟩)) rfl (by kernel_rfl) (by kernel_rfl) (by kernel_rfl) (fun _ _ _ h => h) (Or.inl ⟨by rfl, fun w h => by go_simp⟩) hHeld ?_
  try simp only [Act.put, List.getElem_toArray, List.getElem_cons_succ, List.getElem_cons_zero, List.setIfInBounds_toArray, List.set_cons_zero, List.set_cons_succ]
  refine wpAnyH_take (i := 5) (v := .pointer (some ⟨g, 37, none⟩)) rfl (by kernel_rfl) (by kernel_rfl) (by kernel_rfl) (fun _ _ _ h => h) (Or.inl ⟨by rfl, fun w h => by go_simp⟩) hHeld ?_
  try simp only [Act.put, List.getElem_toArray, List.getElem_cons_succ, List.getElem_cons_zero, List.setIfInBounds_toArray, List.set_cons_zero, List.set_cons_succ]
  refine wpAnyH_take (i := 6) (v := .pointer (some ⟨g, 37, none⟩)) rfl (by kernel_rfl) (by kernel_rfl) (by kernel_rfl) (fun _ _ _ h => h) (Or.inl ⟨by rfl, fun w h => by go_simp⟩) hHeld ?_
  try simp only [Act.put, List.getElem_toArray, List.getElem_cons_succ, List.getElem_cons_zero, List.setIfInBounds_toArray, List.set_cons_zero, List.set_cons_succ]
  refine wpAnyH_take (i := 8) (v := .slice a1 (4 + n) c1) rfl (by kernel_rfl) (by kernel_rfl) (by kernel_rfl) (fun _ _ _ h => h) (Or.inl ⟨by rfl, fun w h => by go_simp⟩) hHeld ?_
  try simp only [Act.put, List.getElem_toArray, List.getElem_cons_succ, List.getElem_cons_zero, List.setIfInBounds_toArray, List.set_cons_zero, List.set_cons_succ]
  refine wpAnyH_take (i := 10) (v := .pointer (some ⟨g, 0, none⟩)) rfl (by kernel_rfl) (by kernel_rfl) (by kernel_rfl) (fun _ _ _ h => h) (Or.inl ⟨by rfl, fun w h => by go_simp⟩) hHeld ?_
  try simp only [Act.put, List.getElem_toArray, List.getElem_cons_succ, List.getElem_cons_zero, List.setIfInBounds_toArray, List.set_cons_zero, List.set_cons_succ]
  refine wpAnyH_take (i := 11) (v := .pointer (some ⟨g, 37, none⟩)) rfl (by kernel_rfl) (by kernel_rfl) (by kernel_rfl) (fun _ _ _ h => h) (Or.inl ⟨by rfl, fun w h => by go_simp⟩) hHeld ?_
  try simp only [Act.put, List.getElem_toArray, List.getElem_cons_succ, List.getElem_cons_zero, List.setIfInBounds_toArray, List.set_cons_zero, List.set_cons_succ]
  refine wpAnyH_ready (rs := [7]) (by kernel_rfl) (by simp) (AllReadyH.cons rfl (fun K hK => ?_) AllReadyH.nil)
  go_simp
  refine hK.out _ _ trivial (fun hHeld => ?_)
  clear hK K
  try simp only [Act.put, List.getElem_toArray, List.getElem_cons_succ, List.getElem_cons_zero, List.setIfInBounds_toArray, List.set_cons_zero, List.set_cons_succ]
  refine wpAnyH_ready (rs := [9]) (by kernel_rfl) (by simp) (AllReadyH.cons rfl (fun K hK => ?_) AllReadyH.nil)
  refine S_append_X tB HGV.out.o0 HBV.out _ _ rfl rfl rfl rfl (by omega) (by unfold maxLen; omega) HGV.out.top ?_
  intro a4 c4 w4 role4 ho4 hst4
  have hr4 := HRV.out.keep (hst4.blk g HGV.out.gl (by rw [HGV.out.rg]; decide))
  have pI : w4.cell? ⟨g, 37, none⟩ = some (.slice A3.o0.a A3.o0.n A3.o0.c) := (hr4.cells hOk3).g37
  have fI := hr4.fr 37
  refine hK.out _ _ trivial (fun hHeld => ?_)
  clear hK K
  try simp only [Act.put, List.getElem_toArray, List.getElem_cons_succ, List.getElem_cons_zero, List.setIfInBounds_toArray, List.set_cons_zero, List.set_cons_succ]
  refine wpAnyH_take (i := 12) (v := .pointer (some ⟨g, 37, none⟩)) rfl (by kernel_rfl) (by kernel_rfl) (by kernel_rfl) (fun _ _ _ h => h) (Or.inl ⟨by rfl, fun w h => by go_simp⟩) hHeld ?_
  try simp only [Act.put, List.getElem_toArray, List.getElem_cons_succ, List.getElem_cons_zero, List.setIfInBounds_toArray, List.set_cons_zero, List.set_cons_succ]
  refine wpAnyH_ready (rs := [13]) (by kernel_rfl) (by simp) (AllReadyH.cons rfl (fun K hK => ?_) AllReadyH.nil)
  go_simp
  refine hK.out _ _ trivial (fun hHeld => ?_)
  clear hK K
  try simp only [Act.put, List.getElem_toArray, List.getElem_cons_succ, List.getElem_cons_zero, List.setIfInBounds_toArray, List.set_cons_zero, List.set_cons_succ]
  refine wpAnyH_done (by kernel_rfl) ?_ _
  try simp only [Act.put, List.getElem_toArray, List.getElem_cons_succ, List.getElem_cons_zero]
  have hgp4 := HGV.out.s_o0 hst4 (x := S3.o0 ++ bs) (by rw [List.map_append]; exact ho4)
  have hr5 := hr4.s_o0 hOk3 a4 (A3.o0.n + (4 + n)) c4 { S3 with o0 := S3.o0 ++ bs } rfl
  have hgp5 := hgp4.cell 37 (.slice a4 (A3.o0.n + (4 + n)) c4)
  have hk5 := (HKV.out.trans (hst4.kpt (by decide))).trans (kpt_cell 37 (.slice a4 (A3.o0.n + (4 + n)) c4) hgp4.rg hst4.top)
  have hfin : ({ S3 with o0 := S3.o0 ++ bs } : MS) = { S with said := S.said ++ bs, o0 := S.o0 ++ bs } := by rw [← H3.out]
  have hOk5 : ({ S3 with o0 := S3.o0 ++ bs } : MS).Ok := ⟨hOk3.rnd, hOk3.hand, hOk3.k0c, hOk3.k0s, hOk3.k1c, hOk3.k1s, hOk3.k2c, hOk3.k2s⟩
  rw [hfin] at hr5 hgp5 hOk5
  have HR5 := Lib.hid hr5
  have HG5 := Lib.hid hgp5
  have HK5 := Lib.hid hk5
  clear hr5 hgp5 hk5 hgp4 hr4 pI fI ho4 hst4 qI
  go_wp2
  go_end0
  exact ⟨rfl, _, _, ⟨HR5.out, hOk5, HG5.out⟩, HK5.out⟩
set_option maxHeartbeats 2000000 in
theorem gsay_1 (w : World) {role : Nat → Nat} {g : Nat} {S : MS} {A : MA} (hM : GM w role g S A) (kind : Nat) (hk : kind < 256) {a : Option Addr} {n c : Nat} {p : List UInt8} (hx : BS w a n c p) (hn : n ≤ 1099511627776) (hs : S.said.length ≤ 1099511627776) (ho : S.o1.length ≤ 1099511627776) :
    Calls Tryd.prog 45 #[.pointer (some ⟨g, 0, none⟩), .int .i64 1, .int .u8 (kind : Int), .slice a n c] w fun e w' => e = .returned (.tuple #[]) ∧ ∃ role' A', GM w' role' g (sayS 1 kind p S) A' ∧ Kpt w w' role role' := by
  have hpl := BS.len hx
  have Hmsg := Lib.hid (message_any w kind hk hx hn)
  obtain ⟨bs, hbs⟩ : ∃ bs, gmsg kind p = bs := ⟨_, rfl⟩
  have hbl : bs.length = 4 + n := by rw [← hbs, gmsg_len, hpl]
  have hsay : sayS 1 kind p S = { S with said := S.said ++ bs, o1 := S.o1 ++ bs } := by unfold sayS; rw [hbs]; rfl
  rw [hsay]
  rw [hbs] at Hmsg
  have HM := Lib.hid hM
  clear hx hM hsay hbs
  go_enter Tryd.func45, Tryd.ntmps45
  go_upto_region 1 with (go_at_call 44; refine Hmsg.out.mono ?_; rintro x w1 ⟨a1, c1, rfl, o1, B1⟩)
  have hM1 := HM.out.below B1
  have hOk := hM1.ok
  have hk1 := Below.kpt B1 HM.out.gp.top
  have HT := Lib.hid HM.out.gp.top
  have hb1 : BS w1 a1 (4 + n) c1 bs := o1.rs
  have q36 : w1.cell? ⟨g, 36, none⟩ = some (.slice A.said.a A.said.n A.said.c) := (hM1.row.cells hOk).g36
  have hsl : A.said.n ≤ 1099511627776 := by rw [hM1.gp.said.len]; exact hs
  have HM1 := Lib.hid hM1
  have HK1 := Lib.hid hk1
  have HB1 := Lib.hid hb1
  have HO1 := Lib.hid o1
  clear hM1 hk1 hb1 o1 B1 Hmsg HM
  go_upto_region 2 with (first
    | (at_builtin; refine L_append_X tB HM1.out.gp.said HB1.out _ _ rfl rfl rfl rfl (by omega) (by unfold maxLen; omega) HM1.out.gp.top ?_; intro a2 c2 w2 role2 ho2 hst2; have hr2 := HM1.out.row.keep (hst2.blk g HM1.out.gp.gl (by rw [HM1.out.gp.rg]; decide)); have p36 : w2.cell? ⟨g, 36, none⟩ = some (.slice A.said.a A.said.n A.said.c) := (hr2.cells hOk).g36; have f36 := hr2.fr 36))
  have hgp2 := HM1.out.gp.s_said hst2 (x := S.said ++ bs) (by rw [List.map_append]; exact ho2)
  have hr3 := hr2.s_said hOk a2 (A.said.n + (4 + n)) c2 { S with said := S.said ++ bs } rfl
  have hgp3 := hgp2.cell 36 (.slice a2 (A.said.n + (4 + n)) c2)
  have hk3 := (HK1.out.trans (hst2.kpt (by decide))).trans (kpt_cell 36 (.slice a2 (A.said.n + (4 + n)) c2) hgp2.rg hst2.top)
  obtain ⟨A3, hA3⟩ : ∃ A3 : MA, { A with said := ⟨a2, A.said.n + (4 + n), c2⟩ } = A3 := ⟨_, rfl⟩
  obtain ⟨S3, hS3⟩ : ∃ S3 : MS, { S with said := S.said ++ bs } = S3 := ⟨_, rfl⟩
  have hFo : S3.o1 = S.o1 := by rw [← hS3]
  have hOk3 : S3.Ok := by rw [← hS3]; exact ⟨hOk.rnd, hOk.hand, hOk.k0c, hOk.k0s, hOk.k1c, hOk.k1s, hOk.k2c, hOk.k2s⟩
  have hb3 : BS w2 a1 (4 + n) c1 bs := RS.keepb HB1.out fun ad ha hl => hst2.blk _ hl (by rw [HT.out _ (HO1.out.base_le ha).1]; decide)
  rw [hA3, hS3] at hr3 hgp3
  have HBS := Lib.hid hb3
  have HKw := Lib.hid hk3
  obtain ⟨V, hV⟩ : ∃ V, (w2.setCell ⟨g, 36, none⟩ (.slice a2 (A.said.n + (4 + n)) c2)).drew = V := ⟨_, rfl⟩
  have hrV : MZ V g S3 A3 := by rw [← hV]; exact hr3
  have hgV : GP V role2 g S3 A3 := by rw [← hV]; exact hgp3.drew
  have hkV : Kpt w V role role2 := by rw [← hV]; exact hk3.drew
  have h2 := RS.grown hb3 (grownBy_setCell w2 ⟨g, 36, none⟩ (.slice a2 (A.said.n + (4 + n)) c2)) (fun ad ha he => by
    have h1 := (HO1.out.base_le ha).1
    injection he with he
    have h3 := HT.out _ h1
    rw [he] at h3
    have h5 := HM1.out.gp.rg
    simp only at h3
    rw [h3] at h5; cases h5)
  have hbV : BS V a1 (4 + n) c1 bs := by rw [← hV]; exact h2
  have qI : V.cell? ⟨g, 38, none⟩ = some (.slice A3.o1.a A3.o1.n A3.o1.c) := (hrV.cells hOk3).g38
  have hol : A3.o1.n ≤ 1099511627776 := by rw [hgV.o1.len, hFo]; exact ho
  have HRV := Lib.hid hrV
  have HGV := Lib.hid hgV
  have HKV := Lib.hid hkV
  have HBV := Lib.hid hbV
  have H3 := Lib.hid hS3
  clear hr3 hgp3 hk3 hb3 hgp2 hr2 p36 f36 h2 hrV hgV hkV hbV ho2 hst2 HBS HKw q36 HB1 hA3 HK1 hS3
  refine wp_region_held_drew (S := fun _ => True) (by kernel_rfl) trivial (fun hHeld => ?_)
  rw [hV]
  refine wpAnyH_take (i := 0) (v := .pointer (some ⟨g, 0, none⟩)) rfl (by kernel_rfl) (by kernel_rfl) (by kernel_rfl) (fun _ _ _ h => h) (Or.inl ⟨by rfl, fun w h => by go_simp⟩) hHeld ?_
  try simp only [Act.put, List.getElem_toArray, List.getElem_cons_zero, List.setIfInBounds_toArray, List.set_cons_zero, List.set_cons_succ]
  refine wpAnyH_take (i := 1) (v := .int .i64 1) rfl (by kernel_rfl) (by kernel_rfl) (by kernel_rfl) (fun _ _ _ h => h) (Or.inl ⟨by rfl, fun w h => by go_simp⟩) hHeld ?_
  try simp only [Act.put, List.getElem_toArray, List.getElem_cons_succ, List.getElem_cons_zero, List.setIfInBounds_toArray, List.set_cons_zero, List.set_cons_succ]
  refine wpAnyH_take (i := 2) (v := .pointer (some ⟨g, 0, none⟩)) rfl (by kernel_rfl) (by kernel_rfl) (by kernel_rfl) (fun _ _ _ h => h) (Or.inl ⟨by rfl, fun w h => by go_simp⟩) hHeld ?_
  try simp only [Act.put, List.getElem_toArray, List.getElem_cons_succ, List.getElem_cons_zero, List.setIfInBounds_toArray, List.set_cons_zero, List.set_cons_succ]
  refine wpAnyH_take (i := 3) (v := .int .i64 1) rfl (by kernel_rfl) (by kernel_rfl) (by kernel_rfl) (fun _ _ _ h => h) (Or.inl ⟨by rfl, fun w h => by go_simp⟩) hHeld ?_
  try simp only [Act.put, List.getElem_toArray, List.getElem_cons_succ, List.getElem_cons_zero, List.setIfInBounds_toArray, List.set_cons_zero, List.set_cons_succ]
  refine wpAnyH_take (i := 4) (v := .pointer (some ⟨g, 0, none⟩)) rfl (by kernel_rfl) (by kernel_rfl) (by kernel_rfl) (fun _ _ _ h => h) (Or.inl ⟨by rfl, fun w h => by go_simp⟩) hHeld ?_
  try simp only [Act.put, List.getElem_toArray, List.getElem_cons_succ, List.getElem_cons_zero, List.setIfInBounds_toArray, List.set_cons_zero, List.set_cons_succ]
  refine wpAnyH_take (i := 5) (v := .pointer (some ⟨g, 37, none⟩)) rfl (by kernel_rfl) (by kernel_rfl) (by kernel_rfl) (fun _ _ _ h => h) (Or.inl ⟨by rfl, fun w h => by go_simp⟩) hHeld ?_
  try simp only [Act.put, List.getElem_toArray, List.getElem_cons_succ, List.getElem_cons_zero, List.setIfInBounds_toArray, List.set_cons_zero, List.set_cons_succ]
  refine wpAnyH_take (i := 6) (v := .pointer (some ⟨g, 38, none⟩)) rfl (by kernel_rfl) (by kernel_rfl) (by kernel_rfl) (fun _ _ _ h => h) (Or.inl ⟨by rfl, fun w h => by go_simp⟩) hHeld ?_
  try simp only [Act.put, List.getElem_toArray, List.getElem_cons_succ, List.getElem_cons_zero, List.setIfInBounds_toArray, List.set_cons_zero, List.set_cons_succ]
  refine wpAnyH_take (i := 8) (v := .slice a1 (4 + n) c1) rfl (by kernel_rfl) (by kernel_rfl) (by kernel_rfl) (fun _ _ _ h => h) (Or.inl ⟨by rfl, fun w h => by go_simp⟩) hHeld ?_
  try simp only [Act.put, List.getElem_toArray, List.getElem_cons_succ, List.getElem_cons_zero, List.setIfInBounds_toArray, List.set_cons_zero, List.set_cons_succ]
  refine wpAnyH_take (i := 10) (v := .pointer (some ⟨g, 0, none⟩)) rfl (by kernel_rfl) (by kernel_rfl) (by kernel_rfl) (fun _ _ _ h => h) (Or.inl ⟨by rfl, fun w h => by go_simp⟩) hHeld ?_
  try simp only [Act.put, List.getElem_toArray, List.getElem_cons_succ, List.getElem_cons_zero, List.setIfInBounds_toArray, List.set_cons_zero, List.set_cons_succ]
  refine wpAnyH_take (i := 11) (v := .pointer (some ⟨g, 37, none⟩)) rfl (by kernel_rfl) (by kernel_rfl) (by kernel_rfl) (fun _ _ _ h => h) (Or.inl ⟨by rfl, fun w h => by go_simp⟩) hHeld ?_
  try simp only [Act.put, List.getElem_toArray, List.getElem_cons_succ, List.getElem_cons_zero, List.setIfInBounds_toArray, List.set_cons_zero, List.set_cons_succ]
  refine wpAnyH_ready (rs := [7]) (by kernel_rfl) (by simp) (AllReadyH.cons rfl (fun K hK => ?_) AllReadyH.nil)
  go_simp
  refine hK.out _ _ trivial (fun hHeld => ?_)
  clear hK K
  try simp only [Act.put, List.getElem_toArray, List.getElem_cons_succ, List.getElem_cons_zero, List.setIfInBounds_toArray, List.set_cons_zero, List.set_cons_succ]
  refine wpAnyH_ready (rs := [9]) (by kernel_rfl) (by simp) (AllReadyH.cons rfl (fun K hK => ?_) AllReadyH.nil)
  refine S_append_X tB HGV.out.o1 HBV.out _ _ rfl rfl rfl rfl (by omega) (by unfold maxLen; omega) HGV.out.top ?_
  intro a4 c4 w4 role4 ho4 hst4
  have hr4 := HRV.out.keep (hst4.blk g HGV.out.gl (by rw [HGV.out.rg]; decide))
  have pI : w4.cell? ⟨g, 38, none⟩ = some (.slice A3.o1.a A3.o1.n A3.o1.c) := (hr4.cells hOk3).g38
  have fI := hr4.fr 38
  refine hK.out _ _ trivial (fun hHeld => ?_)
  clear hK K
  try simp only [Act.put, List.getElem_toArray, List.getElem_cons_succ, List.getElem_cons_zero, List.setIfInBounds_toArray, List.set_cons_zero, List.set_cons_succ]
  refine wpAnyH_take (i := 12) (v := .pointer (some ⟨g, 38, none⟩)) rfl (by kernel_rfl) (by kernel_rfl) (by kernel_rfl) (fun _ _ _ h => h) (Or.inl ⟨by rfl, fun w h => by go_simp⟩) hHeld ?_
  try simp only [Act.put, List.getElem_toArray, List.getElem_cons_succ, List.getElem_cons_zero, List.setIfInBounds_toArray, List.set_cons_zero, List.set_cons_succ]
  refine wpAnyH_ready (rs := [13]) (by kernel_rfl) (by simp) (AllReadyH.cons rfl (fun K hK => ?_) AllReadyH.nil)
  go_simp
  refine hK.out _ _ trivial (fun hHeld => ?_)
  clear hK K
  try simp only [Act.put, List.getElem_toArray, List.getElem_cons_succ, List.getElem_cons_zero, List.setIfInBounds_toArray, List.set_cons_zero, List.set_cons_succ]
  refine wpAnyH_done (by kernel_rfl) ?_ _
  try simp only [Act.put, List.getElem_toArray, List.getElem_cons_succ, List.getElem_cons_zero]
  have hgp4 := HGV.out.s_o1 hst4 (x := S3.o1 ++ bs) (by rw [List.map_append]; exact ho4)
  have hr5 := hr4.s_o1 hOk3 a4 (A3.o1.n + (4 + n)) c4 { S3 with o1 := S3.o1 ++ bs } rfl
  have hgp5 := hgp4.cell 38 (.slice a4 (A3.o1.n + (4 + n)) c4)
  have hk5 := (HKV.out.trans (hst4.kpt (by decide))).trans (kpt_cell 38 (.slice a4 (A3.o1.n + (4 + n)) c4) hgp4.rg hst4.top)
  have hfin : ({ S3 with o1 := S3.o1 ++ bs } : MS) = { S with said := S.said ++ bs, o1 := S.o1 ++ bs } := by rw [← H3.out]
  have hOk5 : ({ S3 with o1 := S3.o1 ++ bs } : MS).Ok := ⟨hOk3.rnd, hOk3.hand, hOk3.k0c, hOk3.k0s, hOk3.k1c, hOk3.k1s, hOk3.k2c, hOk3.k2s⟩
  rw [hfin] at hr5 hgp5 hOk5
  have HR5 := Lib.hid hr5
  have HG5 := Lib.hid hgp5
  have HK5 := Lib.hid hk5
  clear hr5 hgp5 hk5 hgp4 hr4 pI fI ho4 hst4 qI
  go_wp2
  go_end0
  exact ⟨rfl, _, _, ⟨HR5.out, hOk5, HG5.out⟩, HK5.out⟩
end Go.Proofs.YtkhcpnmbhbhcgaaDoor
