/- word.Bytes, talk.right. -/
import Derived.Test.YtokgpnkooigamaaDoorTI
import Derived.Test.YtokgpnkooigamaaDoorTL
set_option maxRecDepth 100000
set_option linter.unusedVariables false
namespace Go.Proofs.YtokgpnkooigamaaDoor
open Go.RowKit
theorem max_le9 {a b c d e f g h i M : Nat} (hm : max (max (max (max (max (max (max (max a b) c) d) e) f) g) h) i ≤ M) : a ≤ M ∧ b ≤ M ∧ c ≤ M ∧ d ≤ M ∧ e ≤ M ∧ f ≤ M ∧ g ≤ M ∧ h ≤ M ∧ i ≤ M := by omega
theorem maxI_ge (xs : List Nat) : ∀ (n i : Nat), i < n → xs.getD i 0 ≤ maxI xs n
  | n + 1, i, h => by
    rw [maxI]
    by_cases hi : i = n
    · subst hi; omega
    · have := maxI_ge xs n i (by omega)
      omega
/-- what a right message holds -/
theorem right_bounds {w : World} {m : MG} {s : ML} (hm : MR w m s) (h : rightM m = true) : FBd m s ∧ ∃ p, partsS m.kind = some p := by
  unfold rightM at h
  cases hp : partsS m.kind with
  | none => rw [hp] at h; cases h
  | some p =>
    rw [hp] at h
    simp only [Bool.and_eq_true, decide_eq_true_eq] at h
    obtain ⟨⟨⟨h1, h2⟩, h3⟩, h4⟩ := h
    obtain ⟨a1, a2, a3, a4, a5, a6, a7, a8, a9⟩ := max_le9 h3
    unfold emptyM at h1
    rw [decide_eq_true_eq] at h1
    have e2 := h1.2.1
    unfold okM at h4
    simp only [Bool.and_eq_true, Bool.or_eq_true, Bool.not_eq_true'] at h4
    have hnm : m.name.length ≤ 32 := by
      rcases h4.1.1.1.1.1 with h5 | h5
      · simp only [bareM, h5] at e2; simp at e2; simp [e2.1.1]
      · unfold nameB at h5
        split at h5
        · cases h5
        · simp only [Bool.and_eq_true, decide_eq_true_eq] at h5; exact h5.1
    have hvs : m.vers.length ≤ 8 ∧ ∀ x ∈ m.vers, x ≤ 4611686018427387903 := by
      rcases h4.2 with h5 | h5
      · simp only [bareM, h5] at e2; simp at e2; simp [e2.2]
      · unfold listB at h5
        rw [decide_eq_true_eq] at h5
        refine ⟨h5.2.1, fun x hx => ?_⟩
        obtain ⟨i, hi, rfl⟩ := List.getElem_of_mem hx
        have := maxI_ge m.vers m.vers.length i hi
        rw [List.getD_eq_getElem?_getD, List.getElem?_eq_getElem hi] at this
        exact Nat.le_trans this h5.2.2
    refine ⟨⟨?_, ?_, ?_, ?_, ?_, ?_, ?_, ?_, ?_, ?_, ?_, ?_, ?_⟩, p, rfl⟩
    all_goals first
      | omega
      | (intro x hx; have := hvs.2 x hx; omega)
      | (have := hm.n1; omega)
      | (have := hm.n2; omega)
      | (have := hm.n3; omega)
theorem PS3t (w : World) {a1 a2 a3 : Option Addr} {n1 n2 n3 c1 c2 c3 : Nat} {x1 x2 x3 : List UInt8} (h1 : BS w a1 n1 c1 x1) (h2 : BS w a2 n2 c2 x2) (h3 : BS w a3 n3 c3 x3) :
    PS (w.alloc (.cells #[.slice a1 n1 c1, .slice a2 n2 c2, .slice a3 n3 c3] 27)) (some ⟨w.heap.size, 0, none⟩) 3 3 [x1, x2, x3] := by
  refine ⟨[.slice a1 n1 c1, .slice a2 n2 c2, .slice a3 n3 c3], RS_new w _ #[.slice a1 n1 c1, .slice a2 n2 c2, .slice a3 n3 c3] 3 rfl (by omega) (by simp [Value.oneCell']), rfl, fun i p hp => ?_⟩
  match i, hp with
  | 0, hp => cases hp; exact ⟨a1, n1, c1, rfl, h1.alloc _⟩
  | 1, hp => cases hp; exact ⟨a2, n2, c2, rfl, h2.alloc _⟩
  | 2, hp => cases hp; exact ⟨a3, n3, c3, rfl, h3.alloc _⟩
theorem parts_kind {k p : Nat} (h : partsS k = some p) : k < 64 := by
  unfold partsS at h
  rw [Option.map_eq_some_iff] at h
  obtain ⟨x, hx, _⟩ := h
  have hm := List.mem_of_find?_eq_some hx
  have hk := List.find?_some hx
  have : ∀ y ∈ kindT, y.1 < 64 := by decide
  have h2 := this x hm
  have h3 : x.1 = k := by simpa using hk
  omega
set_option maxHeartbeats 4000000 in
theorem bytes_no (w : World) (m : MG) (s : ML) (hm : MR w m s) (hK : KA w) (hr : rightM m = false) :
    Calls Tryd.prog 38 #[.agg (mgc m s).toArray] w fun e w' => e = .returned (.tuple #[.slice none 0 0, .int .i64 4]) ∧ Below w.heap.size w w' := by
  have hb := below_alloc w (.cells (mgc m s).toArray 31)
  have hR := CR.new w 31 (mgc m s)
  obtain ⟨w1, hw1⟩ : ∃ x, w.alloc (.cells (mgc m s).toArray 31) = x := ⟨_, rfl⟩
  obtain ⟨k, hk⟩ : ∃ k, w.heap.size = k := ⟨_, rfl⟩
  rw [hw1, hk] at hR
  rw [hw1] at hb
  have hra := right_any w1 m s (hm.bel hb (Nat.le_refl _)) (hK.bel hb (Nat.le_refl _))
  rw [hr] at hra
  have HRA := Lib.hid hra
  have HB := Lib.hid hb
  have Hrg := Lib.hid hR.rng
  clear hb hR hK hm hra hr
  unfold mgc u64 SA.v at hw1 ⊢
  go_enter Tryd.func38, Tryd.ntmps38
  go_wp2_with (first
    | (refine L_loadG 31 _ rfl (by rfl) _ _ rfl _ _ Hrg.out Tryd.underlying31 rfl iMsg ?_)
    | (go_at_call 45; refine HRA.out.mono ?_; rintro y w2 ⟨rfl, B2⟩))
  go_ret2
  exact ⟨rfl, btr HB.out B2⟩
set_option maxHeartbeats 4000000 in
theorem bytes_ok (w : World) (m : MG) (s : ML) (hm : MR w m s) (hK : KA w) (hr : rightM m = true) :
    Calls Tryd.prog 38 #[.agg (mgc m s).toArray] w fun e w' => (∃ v, e = .returned (.tuple #[v, .int .i64 0])) ∧ Below w.heap.size w w' := by
  obtain ⟨hF, p, hp⟩ := right_bounds hm hr
  have hkd := parts_kind hp
  have hb := below_alloc w (.cells (mgc m s).toArray 31)
  have hR := CR.new w 31 (mgc m s)
  obtain ⟨w1, hw1⟩ : ∃ x, w.alloc (.cells (mgc m s).toArray 31) = x := ⟨_, rfl⟩
  obtain ⟨k, hk⟩ : ∃ k, w.heap.size = k := ⟨_, rfl⟩
  have hkw : k ≤ w.heap.size := by omega
  rw [hw1, hk] at hR
  rw [hw1] at hb
  have hra := right_any w1 m s (hm.bel hb (Nat.le_refl _)) (hK.bel hb (Nat.le_refl _))
  rw [hr] at hra
  have HRA := Lib.hid hra
  have HB := Lib.hid hb
  have HR := Lib.hid hR
  have Hrg := Lib.hid hR.rng
  have HP := Lib.hid hp
  have HF := Lib.hid hF
  have HK := Lib.hid hK
  have HM := Lib.hid hm
  clear hb hR hK hm hra hr hp hF
  unfold mgc u64 SA.v at hw1 ⊢
  go_enter Tryd.func38, Tryd.ntmps38
  go_upto_region 3 with (first
    | (refine L_loadG 31 _ rfl (by rfl) _ _ rfl _ _ Hrg.out Tryd.underlying31 rfl iMsg ?_)
    | (go_at_call 45; refine HRA.out.mono ?_; rintro y w2 ⟨rfl, B2⟩))
  have hB2 := btr HB.out B2
  have hR2 := HR.out.bel B2
  have u0 : w2.cell? ⟨k, 0, none⟩ = some (.int .u64 (m.kind : Int)) := hR2.at_ 0
  have hpa := parts_any w2 m.kind (HK.out.bel hB2 (Nat.le_refl _))
  rw [HP.out] at hpa
  have Hpa := Lib.hid hpa
  have HB2 := Lib.hid hB2
  have HR2 := Lib.hid hR2
  clear hpa hB2 hR2 B2 HRA Hrg
  go_upto_region 4 with (go_at_call 46; refine Hpa.out.mono ?_; rintro y w3 ⟨rfl, B3⟩)
  have HB3 := Lib.hid (btr HB2.out B3)
  have HR3 := Lib.hid (HR2.out.bel B3)
  clear u0 B3 Hpa HR2
  go_upto_region 5 with (fail)
  have hp4 : PN w.heap.size (w3.alloc (.cells #[.slice none 0 0] 89)) w3.heap.size 0 none 0 := ⟨HB3.out.size, CR.new _ _ [.slice none 0 0], [], OW_nil _ _ _ _⟩
  have hb4 := below_alloc w3 (.cells #[.slice none 0 0] 89)
  have hfi := fields_any (w3.alloc (.cells #[.slice none 0 0] 89)) (wB := w) k m s (p : Int) hp4 (Nat.le_refl _) (below_then HB3.out hb4 HB3.out.size) HM.out HF.out (HR3.out.bel hb4) (by have := HR3.out.lt; omega)
  obtain ⟨g, hg⟩ : ∃ g, w3.heap.size = g := ⟨_, rfl⟩
  obtain ⟨w4, hw4⟩ : ∃ x, w3.alloc (.cells #[.slice none 0 0] 89) = x := ⟨_, rfl⟩
  rw [hg, hw4] at hfi ⊢
  have Hfi := Lib.hid hfi
  have Hrg4 := Lib.hid (show w4.rangeAt k 0 (mgc m s) from by rw [← hw4]; exact (HR3.out.bel hb4).rng)
  have Hkw := Lib.hid hk
  clear hp4 hb4 hfi hg hw4 hw1 HB2 HB3 HR3 HR HB HF HP HK hk
  go_upto_region 8 with (first
    | (refine L_loadG 31 _ rfl (by rfl) _ _ rfl _ _ Hrg4.out Tryd.underlying31 rfl iMsg ?_)
    | (go_at_call 47; refine Hfi.out.mono ?_; rintro y w5 ⟨rfl, j, hfd⟩; obtain ⟨⟨n1, a1, c1, hP, hN1⟩, hbx, hbl⟩ := hfd; have q1 : w5.cell? ⟨g, 0, none⟩ = some (.slice a1 n1 c1) := hP.row.at_ 0; have u1 : w5.cell? ⟨k, 0, none⟩ = some (.int .u64 (m.kind : Int)) := (hbx k (by simp)).1.at_ 0; have HPn := Lib.hid hP; have HBL := Lib.hid hbl; clear hP hbx hbl)
    | (go_at_call 48; refine (vnumX_any _ m.kind (by omega)).mono ?_; rintro y w6 ⟨a2, c2, rfl, o2, B6⟩; have q2 : w6.cell? ⟨g, 0, none⟩ = some (.slice a1 n1 c1) := (HPn.out.row.bel B6).at_ 0; have q3 : ∀ o : Obj, (w6.alloc o).cell? ⟨g, 0, none⟩ = some (.slice a1 n1 c1) := (fun o => ((HPn.out.row.bel B6).bel (below_alloc w6 o)).at_ 0); have HO2 := Lib.hid o2; have HB6 := Lib.hid B6; clear o2 B6))
  obtain ⟨xs, ho1⟩ := HPn.out.ow
  have hx1 := RS.below ho1.rs HB6.out (Nat.le_refl _)
  have hxl : xs.length = n1 := by have := hx1.len; simpa using this
  have hkl := numX_len m.kind
  have hkb := vszX_bd m.kind
  have e2 : [Value.int .u8 ((n1 : Int) / 256), Value.int .u8 ((n1 : Int) % 256)] = [UInt8.ofNat (n1 / 256), UInt8.ofNat n1].map B := by
    simp only [List.map_cons, List.map_nil, B, UInt8.toNat_ofNat']
    rw [show (((n1 / 256) % 2 ^ 8 : Nat) : Int) = (n1 : Int) / 256 by omega, show ((n1 % 2 ^ 8 : Nat) : Int) = (n1 : Int) % 256 by omega]
  have hr2 := RS_new w6 5 #[.int .u8 ((n1 : Int) / 256), .int .u8 ((n1 : Int) % 256)] 2 rfl (by omega) (by simp [Value.oneCell'])
  have hr3 : BS (w6.alloc (.cells #[.int .u8 ((n1 : Int) / 256), .int .u8 ((n1 : Int) % 256)] 5)) (some ⟨w6.heap.size, 0, none⟩) 2 2 [UInt8.ofNat (n1 / 256), UInt8.ofNat n1] := by
    unfold BS; rw [← e2]; exact hr2
  have hps := PS3t _ (RS.alloc HO2.out.rs (.cells #[.int .u8 ((n1 : Int) / 256), .int .u8 ((n1 : Int) % 256)] 5)) hr3 (RS.alloc hx1 _)
  have hsz : (w6.alloc (.cells #[.int .u8 ((n1 : Int) / 256), .int .u8 ((n1 : Int) % 256)] 5)).heap.size = w6.heap.size + 1 := by simp
  have hjn := join_any _ _ hps (by simp [hkl, hxl]; omega)
  rw [hsz] at hjn
  have hbl : Below w.heap.size w w6 := below_then HBL.out HB6.out HBL.out.size
  have hb7 := (hbl.alloc hbl.size (.cells #[.int .u8 ((n1 : Int) / 256), .int .u8 ((n1 : Int) % 256)] 5)).alloc (Nat.le_trans hbl.size (by simp)) (.cells #[.slice a2 (vszX m.kind) c2, .slice (some ⟨w6.heap.size, 0, none⟩) 2 2, .slice a1 n1 c1] 27)
  have Hjn := Lib.hid hjn
  have HB7 := Lib.hid hb7
  clear hsz hx1 hxl hkl hkb e2 hr2 hr3 hps hjn hbl hb7 ho1 q1 q2 u1 HO2 HB6 HBL HPn Hkw HM
  go_wp2_with (go_at_call 49; (with_reducible refine Hjn.out.mono ?_); rintro y w8 ⟨a5, c5, rfl, o5, B8⟩)
  go_ret2
  exact ⟨⟨_, rfl⟩, below_then HB7.out B8 HB7.out.size⟩
theorem bytes_any (w : World) (m : MG) (s : ML) (hm : MR w m s) (hK : KA w) :
    Calls Tryd.prog 38 #[.agg (mgc m s).toArray] w fun e w' => (∃ v, e = .returned (.tuple #[v, .int .i64 (if rightM m then 0 else 4)])) ∧ Below w.heap.size w w' := by
  cases hr : rightM m with
  | true => exact bytes_ok w m s hm hK hr
  | false => exact (bytes_no w m s hm hK hr).mono fun e w' h => ⟨⟨_, h.1⟩, h.2⟩
set_option maxHeartbeats 4000000 in
theorem tright_any (w : World) (m : MG) (s : ML) (hm : MR w m s) (hK : KA w) :
    Calls Tryd.prog 23 #[.agg (mgc m s).toArray] w fun e w' => e = .returned (.bool (rightM m)) ∧ Below w.heap.size w w' := by
  have hb := below_alloc w (.cells (mgc m s).toArray 31)
  have hR := CR.new w 31 (mgc m s)
  obtain ⟨w1, hw1⟩ : ∃ x, w.alloc (.cells (mgc m s).toArray 31) = x := ⟨_, rfl⟩
  obtain ⟨k, hk⟩ : ∃ k, w.heap.size = k := ⟨_, rfl⟩
  rw [hw1, hk] at hR
  rw [hw1] at hb
  have hra := bytes_any w1 m s (hm.bel hb (Nat.le_refl _)) (hK.bel hb (Nat.le_refl _))
  obtain ⟨r, hr⟩ : ∃ r, rightM m = r := ⟨_, rfl⟩
  rw [hr] at hra ⊢
  have HB := Lib.hid hb
  have Hrg := Lib.hid hR.rng
  unfold mgc u64 SA.v at hw1 ⊢
  cases r with
  | true =>
    have HRA := Lib.hid hra
    clear hb hR hK hm hra hr
    go_enter Tryd.func23, Tryd.ntmps23
    go_wp2_with (first
      | (refine L_loadG 31 _ rfl (by rfl) _ _ rfl _ _ Hrg.out Tryd.underlying31 rfl iMsg ?_)
      | (go_at_call 38; refine HRA.out.mono ?_; rintro y w2 ⟨⟨v, rfl⟩, B2⟩))
    go_ret
    exact ⟨rfl, btr HB.out B2⟩
  | false =>
    have HRA := Lib.hid hra
    clear hb hR hK hm hra hr
    go_enter Tryd.func23, Tryd.ntmps23
    go_wp2_with (first
      | (refine L_loadG 31 _ rfl (by rfl) _ _ rfl _ _ Hrg.out Tryd.underlying31 rfl iMsg ?_)
      | (go_at_call 38; refine HRA.out.mono ?_; rintro y w2 ⟨⟨v, rfl⟩, B2⟩))
    go_ret
    exact ⟨rfl, btr HB.out B2⟩
end Go.Proofs.YtokgpnkooigamaaDoor
