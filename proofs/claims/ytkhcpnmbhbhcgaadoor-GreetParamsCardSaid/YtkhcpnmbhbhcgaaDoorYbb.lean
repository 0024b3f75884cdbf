/- texts U5 U9 UA in one. -/
import Derived.Test.YtkhcpnmbhbhcgaaDoorYba
import Derived.Test.YtkhcpnmbhbhcgaaDoorYbc
import Derived.Test.YtkhcpnmbhbhcgaaDoorYat

/- law13.side. -/
set_option maxRecDepth 100000
set_option linter.unusedVariables false
namespace Go.Proofs.YtkhcpnmbhbhcgaaDoor
open Go.RowKit Go.Joins
set_option maxHeartbeats 4000000 in
theorem side_any (w : World) (sv : Bool) {a1 a2 a3 a4 : Option Addr} {n1 c1 n2 c2 n3 c3 n4 c4 : Nat} {id sec par rnd : List UInt8} (hid : BS w a1 n1 c1 id) (hsec : BS w a2 n2 c2 sec) (hpar : BS w a3 n3 c3 par) (hrnd : BS w a4 n4 c4 rnd) :
    Calls Tryd.prog 9 #[.agg #[.bool sv, .slice a1 n1 c1, .slice a2 n2 c2, .slice a3 n3 c3, .slice a4 n4 c4]] w fun e w' => ∃ N i1 s1 p1 r1 i2 s2 p2, e = .returned (.tuple #[AgC sv i2.v s2.v p2.v (pad32 rnd), .agg #[.bool sv, i1.v, s1.v, p1.v, r1.v]]) ∧ SideQ w w' N id sec par rnd i1 s1 p1 r1 i2 s2 p2 := by
  obtain ⟨id2, hid2⟩ : ∃ x, id.take 80 = x := ⟨_, rfl⟩
  obtain ⟨sec2, hsec2⟩ : ∃ x, sec.take 80 = x := ⟨_, rfl⟩
  obtain ⟨par2, hpar2⟩ : ∃ x, par.take 600 = x := ⟨_, rfl⟩
  obtain ⟨R, hR⟩ : ∃ x, pad32 rnd = x := ⟨_, rfl⟩
  have hRl : R.length = 32 := by rw [← hR]; exact pad32_len rnd
  obtain ⟨li, hli⟩ : ∃ x, id2.length = x := ⟨_, rfl⟩
  obtain ⟨ls, hls⟩ : ∃ x, sec2.length = x := ⟨_, rfl⟩
  obtain ⟨lp, hlp⟩ : ∃ x, par2.length = x := ⟨_, rfl⟩
  have Hc1 := Lib.hid (fun (w' : World) (h : BS w' a1 n1 c1 id) => cutx_any w' h 80 (by omega))
  have Hc2 := Lib.hid (fun (w' : World) (h : BS w' a2 n2 c2 sec) => cutx_any w' h 80 (by omega))
  have Hc3 := Lib.hid (fun (w' : World) (h : BS w' a3 n3 c3 par) => cutx_any w' h 600 (by omega))
  rw [hid2, hli] at Hc1
  rw [hsec2, hls] at Hc2
  rw [hpar2, hlp] at Hc3
  have HL := Lib.hid (show li ≤ 80 ∧ ls ≤ 80 ∧ lp ≤ 600 by rw [← hli, ← hls, ← hlp, ← hid2, ← hsec2, ← hpar2]; simp only [List.length_take]; omega)
  have HE := Lib.hid (And.intro hid2 (And.intro hsec2 hpar2))
  have HE2 := Lib.hid (And.intro hli (And.intro hls hlp))
  have HRE := Lib.hid hR
  have HI := Lib.hid hid
  have HS := Lib.hid hsec
  have HP := Lib.hid hpar
  have HR := Lib.hid hrnd
  have hst := SdW.start w sv (.slice a1 n1 c1) (.slice a2 n2 c2) (.slice a3 n3 c3) (.slice a4 n4 c4)
  have hst : SdW w (((w.alloc (.cells #[.bool sv, .slice a1 n1 c1, .slice a2 n2 c2, .slice a3 n3 c3, .slice a4 n4 c4] 24)).alloc (.cells #[.bool false, .slice none 0 0, .slice none 0 0, .slice none 0 0, .int .u8 0, .int .u8 0, .int .u8 0, .int .u8 0, .int .u8 0, .int .u8 0, .int .u8 0, .int .u8 0, .int .u8 0, .int .u8 0, .int .u8 0, .int .u8 0, .int .u8 0, .int .u8 0, .int .u8 0, .int .u8 0, .int .u8 0, .int .u8 0, .int .u8 0, .int .u8 0, .int .u8 0, .int .u8 0, .int .u8 0, .int .u8 0, .int .u8 0, .int .u8 0, .int .u8 0, .int .u8 0, .int .u8 0, .int .u8 0, .int .u8 0, .int .u8 0] 28)).alloc (.cells #[.bool false, .slice none 0 0, .slice none 0 0, .slice none 0 0, .slice none 0 0] 24)) w.heap.size sv (.slice a1 n1 c1) (.slice a2 n2 c2) (.slice a3 n3 c3) (.slice a4 n4 c4) := hst
  have HST := Lib.hid hst
  obtain ⟨b, hb⟩ : ∃ b, w.heap.size = b := ⟨_, rfl⟩
  rw [hb] at HST
  have HB := Lib.hid hb
  clear hid2 hsec2 hpar2 hR hli hls hlp hid hsec hpar hrnd hst hb
  go_enter Tryd.func9, Tryd.ntmps9
  go_upto_region 1 with (fail)
  rw [HB.out]
  obtain ⟨W, hW⟩ : ∃ x, (((w.alloc (.cells #[.bool sv, .slice a1 n1 c1, .slice a2 n2 c2, .slice a3 n3 c3, .slice a4 n4 c4] 24)).alloc (.cells #[.bool false, .slice none 0 0, .slice none 0 0, .slice none 0 0, .int .u8 0, .int .u8 0, .int .u8 0, .int .u8 0, .int .u8 0, .int .u8 0, .int .u8 0, .int .u8 0, .int .u8 0, .int .u8 0, .int .u8 0, .int .u8 0, .int .u8 0, .int .u8 0, .int .u8 0, .int .u8 0, .int .u8 0, .int .u8 0, .int .u8 0, .int .u8 0, .int .u8 0, .int .u8 0, .int .u8 0, .int .u8 0, .int .u8 0, .int .u8 0, .int .u8 0, .int .u8 0, .int .u8 0, .int .u8 0, .int .u8 0, .int .u8 0] 28)).alloc (.cells #[.bool false, .slice none 0 0, .slice none 0 0, .slice none 0 0, .slice none 0 0] 24)) = x := ⟨_, rfl⟩
  rw [hW] at HST ⊢
  clear hW
  obtain ⟨V, hV⟩ : ∃ x, W.drew = x := ⟨_, rfl⟩
  have hSV : SdW w V b sv (.slice a1 n1 c1) (.slice a2 n2 c2) (.slice a3 n3 c3) (.slice a4 n4 c4) := by rw [← hV]; exact HST.out.drew
  have lb := hSV.z.lt
  have bls : ∀ (v : World), Below V.heap.size V v → ∀ (a : Option Addr) (n c : Nat) (xs : List UInt8), BS w a n c xs → BS v a n c xs := fun v hb a n c xs h => RS.below h (hSV.bel.trans (hb.mono (Nat.le_of_lt lb))) (by rw [HB.out]; exact Nat.le_refl _)
  have HSV := Lib.hid hSV
  have BLS := Lib.hid bls
  have b0 : Below V.heap.size V V := Below.refl _ _
  clear hSV bls HST
  refine wp_region_held_drew (S := fun w' => True) (by kernel_rfl) trivial (fun hHeld => ?_)
  rw [hV]
  refine wpAnyH_take (i := 0) (v := .pointer (some ⟨b, 1, none⟩)) rfl (by kernel_rfl) (by kernel_rfl) (by kernel_rfl) (fun _ _ _ h => h) (Or.inl ⟨by rfl, fun w h => by go_simp⟩) hHeld ?_
  try simp only [Act.put, List.getElem_toArray, List.getElem_cons_zero, List.setIfInBounds_toArray, List.set_cons_zero, List.set_cons_succ]
  refine wpAnyH_take (i := 3) (v := .pointer (some ⟨b, 2, none⟩)) rfl (by kernel_rfl) (by kernel_rfl) (by kernel_rfl) (fun _ _ _ h => h) (Or.inl ⟨by rfl, fun w h => by go_simp⟩) hHeld ?_
  try simp only [Act.put, List.getElem_toArray, List.getElem_cons_succ, List.getElem_cons_zero, List.setIfInBounds_toArray, List.set_cons_zero, List.set_cons_succ]
  refine wpAnyH_take (i := 6) (v := .pointer (some ⟨b, 3, none⟩)) rfl (by kernel_rfl) (by kernel_rfl) (by kernel_rfl) (fun _ _ _ h => h) (Or.inl ⟨by rfl, fun w h => by go_simp⟩) hHeld ?_
  try simp only [Act.put, List.getElem_toArray, List.getElem_cons_succ, List.getElem_cons_zero, List.setIfInBounds_toArray, List.set_cons_zero, List.set_cons_succ]
  refine (fun (hka : Hid (∀ (w : World) (pi : Option Addr) (di : Nat) (ps : Option Addr) (ds : Nat) (pp : Option Addr) (dp : Nat), (Below V.heap.size V w ∧ OW w V.heap.size 5 1 pi li di (id2.map B) ∧ OW w V.heap.size 5 1 ps ls ds (sec2.map B) ∧ OW w V.heap.size 5 1 pp lp dp (par2.map B)) → (?Pa : World → Option Addr → Nat → Option Addr → Nat → Option Addr → Nat → Prop) w pi di ps ds pp dp)) => ?maina) (Lib.hid ?resta)
  case maina =>
    refine wpAnyH_ready (rs := [1, 4, 7]) (by kernel_rfl) (by simp) (AllReadyH.cons rfl (fun K hK => ?qa1a) (AllReadyH.cons rfl (fun K hK => ?qa1b) (AllReadyH.cons rfl (fun K hK => ?qa1c) AllReadyH.nil)))
    case qa1a =>
      have q := ((HSV.out.next b0).z).c1
      go_simp
      refine hK.out _ _ (trivial) (fun hHeld => ?_)
      clear hK K q
      try simp only [Act.put, List.getElem_toArray, List.getElem_cons_succ, List.getElem_cons_zero, List.setIfInBounds_toArray, List.set_cons_zero, List.set_cons_succ]
      refine wpAnyH_ready (rs := [2, 4, 7]) (by kernel_rfl) (by simp) (AllReadyH.cons rfl (fun K hK => ?qa2a) (AllReadyH.cons rfl (fun K hK => ?qa2b) (AllReadyH.cons rfl (fun K hK => ?qa2c) AllReadyH.nil)))
      case qa2a =>
        go_simp
        go_at_call 18
        refine ((Hc1.out V (BLS.out V b0 _ _ _ _ HI.out))).mono ?_
        rintro x va3 ⟨pi, di, rfl, hopi, Ba5⟩
        have ba4 := b0.trans (Ba5.mono b0.size)
        have ha6 : OW va3 V.heap.size 5 1 pi li di (id2.map B) := hopi.mono b0.size
        refine hK.out _ _ (trivial) (fun hHeld => ?_)
        clear hK K
        try simp only [Act.put, List.getElem_toArray, List.getElem_cons_succ, List.getElem_cons_zero, List.setIfInBounds_toArray, List.set_cons_zero, List.set_cons_succ]
        refine wpAnyH_ready (rs := [4, 7]) (by kernel_rfl) (by simp) (AllReadyH.cons rfl (fun K hK => ?qa3a) (AllReadyH.cons rfl (fun K hK => ?qa3b) AllReadyH.nil))
        case qa3a =>
          have q := ((HSV.out.next ba4).z).c2
          go_simp
          refine hK.out _ _ (trivial) (fun hHeld => ?_)
          clear hK K q
          try simp only [Act.put, List.getElem_toArray, List.getElem_cons_succ, List.getElem_cons_zero, List.setIfInBounds_toArray, List.set_cons_zero, List.set_cons_succ]
          refine wpAnyH_ready (rs := [5, 7]) (by kernel_rfl) (by simp) (AllReadyH.cons rfl (fun K hK => ?qa4a) (AllReadyH.cons rfl (fun K hK => ?qa4b) AllReadyH.nil))
          case qa4a =>
            go_simp
            go_at_call 18
            refine ((Hc2.out va3 (BLS.out va3 ba4 _ _ _ _ HS.out))).mono ?_
            rintro x va9 ⟨ps, ds, rfl, hops, Ba11⟩
            have ba10 := ba4.trans (Ba11.mono ba4.size)
            have ha12 := ha6.below Ba11 (Nat.le_refl _)
            have ha13 : OW va9 V.heap.size 5 1 ps ls ds (sec2.map B) := hops.mono ba4.size
            refine hK.out _ _ (trivial) (fun hHeld => ?_)
            clear hK K
            try simp only [Act.put, List.getElem_toArray, List.getElem_cons_succ, List.getElem_cons_zero, List.setIfInBounds_toArray, List.set_cons_zero, List.set_cons_succ]
            refine wpAnyH_ready (rs := [7]) (by kernel_rfl) (by simp) (AllReadyH.cons rfl (fun K hK => ?_) AllReadyH.nil)
            have q := ((HSV.out.next ba10).z).c3
            go_simp
            refine hK.out _ _ (trivial) (fun hHeld => ?_)
            clear hK K q
            try simp only [Act.put, List.getElem_toArray, List.getElem_cons_succ, List.getElem_cons_zero, List.setIfInBounds_toArray, List.set_cons_zero, List.set_cons_succ]
            refine wpAnyH_take (i := 9) (v := .pointer (some ⟨b, 1, none⟩)) rfl (by kernel_rfl) (by kernel_rfl) (by kernel_rfl) (fun _ _ _ h => h) (Or.inl ⟨by rfl, fun w h => by go_simp⟩) hHeld ?_
            try simp only [Act.put, List.getElem_toArray, List.getElem_cons_succ, List.getElem_cons_zero, List.setIfInBounds_toArray, List.set_cons_zero, List.set_cons_succ]
            refine wpAnyH_ready (rs := [8]) (by kernel_rfl) (by simp) (AllReadyH.cons rfl (fun K hK => ?_) AllReadyH.nil)
            go_simp
            go_at_call 18
            refine ((Hc3.out va9 (BLS.out va9 ba10 _ _ _ _ HP.out))).mono ?_
            rintro x va16 ⟨pp, dp, rfl, hopp, Ba18⟩
            have ba17 := ba10.trans (Ba18.mono ba10.size)
            have ha19 := ha12.below Ba18 (Nat.le_refl _)
            have ha20 := ha13.below Ba18 (Nat.le_refl _)
            have ha21 : OW va16 V.heap.size 5 1 pp lp dp (par2.map B) := hopp.mono ba10.size
            refine hK.out _ _ (trivial) (fun hHeld => ?_)
            clear hK K
            try simp only [Act.put, List.getElem_toArray, List.getElem_cons_succ, List.getElem_cons_zero, List.setIfInBounds_toArray, List.set_cons_zero, List.set_cons_succ]
            exact hka.out va16 pi di ps ds pp dp ⟨ba17, ha19, ha20, ha21⟩
          case qa4b =>
            have q := ((HSV.out.next ba4).z).c3
            go_simp
            refine hK.out _ _ (trivial) (fun hHeld => ?_)
            clear hK K q
            try simp only [Act.put, List.getElem_toArray, List.getElem_cons_succ, List.getElem_cons_zero, List.setIfInBounds_toArray, List.set_cons_zero, List.set_cons_succ]
            refine wpAnyH_take (i := 9) (v := .pointer (some ⟨b, 1, none⟩)) rfl (by kernel_rfl) (by kernel_rfl) (by kernel_rfl) (fun _ _ _ h => h) (Or.inl ⟨by rfl, fun w h => by go_simp⟩) hHeld ?_
            try simp only [Act.put, List.getElem_toArray, List.getElem_cons_succ, List.getElem_cons_zero, List.setIfInBounds_toArray, List.set_cons_zero, List.set_cons_succ]
            refine wpAnyH_ready (rs := [5]) (by kernel_rfl) (by simp) (AllReadyH.cons rfl (fun K hK => ?_) AllReadyH.nil)
            go_simp
            go_at_call 18
            refine ((Hc2.out va3 (BLS.out va3 ba4 _ _ _ _ HS.out))).mono ?_
            rintro x va24 ⟨ps, ds, rfl, hops, Ba26⟩
            have ba25 := ba4.trans (Ba26.mono ba4.size)
            have ha27 := ha6.below Ba26 (Nat.le_refl _)
            have ha28 : OW va24 V.heap.size 5 1 ps ls ds (sec2.map B) := hops.mono ba4.size
            refine hK.out _ _ (trivial) (fun hHeld => ?_)
            clear hK K
            try simp only [Act.put, List.getElem_toArray, List.getElem_cons_succ, List.getElem_cons_zero, List.setIfInBounds_toArray, List.set_cons_zero, List.set_cons_succ]
            refine wpAnyH_ready (rs := [8]) (by kernel_rfl) (by simp) (AllReadyH.cons rfl (fun K hK => ?_) AllReadyH.nil)
            go_simp
            go_at_call 18
            refine ((Hc3.out va24 (BLS.out va24 ba25 _ _ _ _ HP.out))).mono ?_
            rintro x va29 ⟨pp, dp, rfl, hopp, Ba31⟩
            have ba30 := ba25.trans (Ba31.mono ba25.size)
            have ha32 := ha27.below Ba31 (Nat.le_refl _)
            have ha33 := ha28.below Ba31 (Nat.le_refl _)
            have ha34 : OW va29 V.heap.size 5 1 pp lp dp (par2.map B) := hopp.mono ba25.size
            refine hK.out _ _ (trivial) (fun hHeld => ?_)
            clear hK K
            try simp only [Act.put, List.getElem_toArray, List.getElem_cons_succ, List.getElem_cons_zero, List.setIfInBounds_toArray, List.set_cons_zero, List.set_cons_succ]
            exact hka.out va29 pi di ps ds pp dp ⟨ba30, ha32, ha33, ha34⟩
        case qa3b =>
          have q := ((HSV.out.next ba4).z).c3
          go_simp
          refine hK.out _ _ (trivial) (fun hHeld => ?_)
          clear hK K q
          try simp only [Act.put, List.getElem_toArray, List.getElem_cons_succ, List.getElem_cons_zero, List.setIfInBounds_toArray, List.set_cons_zero, List.set_cons_succ]
          refine wpAnyH_ready (rs := [4]) (by kernel_rfl) (by simp) (AllReadyH.cons rfl (fun K hK => ?_) AllReadyH.nil)
          have q := ((HSV.out.next ba4).z).c2
          go_simp
          refine hK.out _ _ (trivial) (fun hHeld => ?_)
          clear hK K q
          try simp only [Act.put, List.getElem_toArray, List.getElem_cons_succ, List.getElem_cons_zero, List.setIfInBounds_toArray, List.set_cons_zero, List.set_cons_succ]
          refine wpAnyH_take (i := 9) (v := .pointer (some ⟨b, 1, none⟩)) rfl (by kernel_rfl) (by kernel_rfl) (by kernel_rfl) (fun _ _ _ h => h) (Or.inl ⟨by rfl, fun w h => by go_simp⟩) hHeld ?_
          try simp only [Act.put, List.getElem_toArray, List.getElem_cons_succ, List.getElem_cons_zero, List.setIfInBounds_toArray, List.set_cons_zero, List.set_cons_succ]
          refine wpAnyH_ready (rs := [5]) (by kernel_rfl) (by simp) (AllReadyH.cons rfl (fun K hK => ?_) AllReadyH.nil)
          go_simp
          go_at_call 18
          refine ((Hc2.out va3 (BLS.out va3 ba4 _ _ _ _ HS.out))).mono ?_
          rintro x va39 ⟨ps, ds, rfl, hops, Ba41⟩
          have ba40 := ba4.trans (Ba41.mono ba4.size)
          have ha42 := ha6.below Ba41 (Nat.le_refl _)
          have ha43 : OW va39 V.heap.size 5 1 ps ls ds (sec2.map B) := hops.mono ba4.size
          refine hK.out _ _ (trivial) (fun hHeld => ?_)
          clear hK K
          try simp only [Act.put, List.getElem_toArray, List.getElem_cons_succ, List.getElem_cons_zero, List.setIfInBounds_toArray, List.set_cons_zero, List.set_cons_succ]
          refine wpAnyH_ready (rs := [8]) (by kernel_rfl) (by simp) (AllReadyH.cons rfl (fun K hK => ?_) AllReadyH.nil)
          go_simp
          go_at_call 18
          refine ((Hc3.out va39 (BLS.out va39 ba40 _ _ _ _ HP.out))).mono ?_
          rintro x va44 ⟨pp, dp, rfl, hopp, Ba46⟩
          have ba45 := ba40.trans (Ba46.mono ba40.size)
          have ha47 := ha42.below Ba46 (Nat.le_refl _)
          have ha48 := ha43.below Ba46 (Nat.le_refl _)
          have ha49 : OW va44 V.heap.size 5 1 pp lp dp (par2.map B) := hopp.mono ba40.size
          refine hK.out _ _ (trivial) (fun hHeld => ?_)
          clear hK K
          try simp only [Act.put, List.getElem_toArray, List.getElem_cons_succ, List.getElem_cons_zero, List.setIfInBounds_toArray, List.set_cons_zero, List.set_cons_succ]
          exact hka.out va44 pi di ps ds pp dp ⟨ba45, ha47, ha48, ha49⟩
      case qa2b =>
        have q := ((HSV.out.next b0).z).c2
        go_simp
        refine hK.out _ _ (trivial) (fun hHeld => ?_)
        clear hK K q
        try simp only [Act.put, List.getElem_toArray, List.getElem_cons_succ, List.getElem_cons_zero, List.setIfInBounds_toArray, List.set_cons_zero, List.set_cons_succ]
        refine wpAnyH_ready (rs := [2, 7]) (by kernel_rfl) (by simp) (AllReadyH.cons rfl (fun K hK => ?qa5a) (AllReadyH.cons rfl (fun K hK => ?qa5b) AllReadyH.nil))
        case qa5a =>
          go_simp
          go_at_call 18
          refine ((Hc1.out V (BLS.out V b0 _ _ _ _ HI.out))).mono ?_
          rintro x va52 ⟨pi, di, rfl, hopi, Ba54⟩
          have ba53 := b0.trans (Ba54.mono b0.size)
          have ha55 : OW va52 V.heap.size 5 1 pi li di (id2.map B) := hopi.mono b0.size
          refine hK.out _ _ (trivial) (fun hHeld => ?_)
          clear hK K
          try simp only [Act.put, List.getElem_toArray, List.getElem_cons_succ, List.getElem_cons_zero, List.setIfInBounds_toArray, List.set_cons_zero, List.set_cons_succ]
          refine wpAnyH_ready (rs := [5, 7]) (by kernel_rfl) (by simp) (AllReadyH.cons rfl (fun K hK => ?qa6a) (AllReadyH.cons rfl (fun K hK => ?qa6b) AllReadyH.nil))
          case qa6a =>
            go_simp
            go_at_call 18
            refine ((Hc2.out va52 (BLS.out va52 ba53 _ _ _ _ HS.out))).mono ?_
            rintro x va56 ⟨ps, ds, rfl, hops, Ba58⟩
            have ba57 := ba53.trans (Ba58.mono ba53.size)
            have ha59 := ha55.below Ba58 (Nat.le_refl _)
            have ha60 : OW va56 V.heap.size 5 1 ps ls ds (sec2.map B) := hops.mono ba53.size
            refine hK.out _ _ (trivial) (fun hHeld => ?_)
            clear hK K
            try simp only [Act.put, List.getElem_toArray, List.getElem_cons_succ, List.getElem_cons_zero, List.setIfInBounds_toArray, List.set_cons_zero, List.set_cons_succ]
            refine wpAnyH_ready (rs := [7]) (by kernel_rfl) (by simp) (AllReadyH.cons rfl (fun K hK => ?_) AllReadyH.nil)
            have q := ((HSV.out.next ba57).z).c3
            go_simp
            refine hK.out _ _ (trivial) (fun hHeld => ?_)
            clear hK K q
            try simp only [Act.put, List.getElem_toArray, List.getElem_cons_succ, List.getElem_cons_zero, List.setIfInBounds_toArray, List.set_cons_zero, List.set_cons_succ]
            refine wpAnyH_take (i := 9) (v := .pointer (some ⟨b, 1, none⟩)) rfl (by kernel_rfl) (by kernel_rfl) (by kernel_rfl) (fun _ _ _ h => h) (Or.inl ⟨by rfl, fun w h => by go_simp⟩) hHeld ?_
            try simp only [Act.put, List.getElem_toArray, List.getElem_cons_succ, List.getElem_cons_zero, List.setIfInBounds_toArray, List.set_cons_zero, List.set_cons_succ]
            refine wpAnyH_ready (rs := [8]) (by kernel_rfl) (by simp) (AllReadyH.cons rfl (fun K hK => ?_) AllReadyH.nil)
            go_simp
            go_at_call 18
            refine ((Hc3.out va56 (BLS.out va56 ba57 _ _ _ _ HP.out))).mono ?_
            rintro x va63 ⟨pp, dp, rfl, hopp, Ba65⟩
            have ba64 := ba57.trans (Ba65.mono ba57.size)
            have ha66 := ha59.below Ba65 (Nat.le_refl _)
            have ha67 := ha60.below Ba65 (Nat.le_refl _)
            have ha68 : OW va63 V.heap.size 5 1 pp lp dp (par2.map B) := hopp.mono ba57.size
            refine hK.out _ _ (trivial) (fun hHeld => ?_)
            clear hK K
            try simp only [Act.put, List.getElem_toArray, List.getElem_cons_succ, List.getElem_cons_zero, List.setIfInBounds_toArray, List.set_cons_zero, List.set_cons_succ]
            exact hka.out va63 pi di ps ds pp dp ⟨ba64, ha66, ha67, ha68⟩
          case qa6b =>
            have q := ((HSV.out.next ba53).z).c3
            go_simp
            refine hK.out _ _ (trivial) (fun hHeld => ?_)
            clear hK K q
            try simp only [Act.put, List.getElem_toArray, List.getElem_cons_succ, List.getElem_cons_zero, List.setIfInBounds_toArray, List.set_cons_zero, List.set_cons_succ]
            refine wpAnyH_take (i := 9) (v := .pointer (some ⟨b, 1, none⟩)) rfl (by kernel_rfl) (by kernel_rfl) (by kernel_rfl) (fun _ _ _ h => h) (Or.inl ⟨by rfl, fun w h => by go_simp⟩) hHeld ?_
            try simp only [Act.put, List.getElem_toArray, List.getElem_cons_succ, List.getElem_cons_zero, List.setIfInBounds_toArray, List.set_cons_zero, List.set_cons_succ]
            refine wpAnyH_ready (rs := [5]) (by kernel_rfl) (by simp) (AllReadyH.cons rfl (fun K hK => ?_) AllReadyH.nil)
            go_simp
            go_at_call 18
            refine ((Hc2.out va52 (BLS.out va52 ba53 _ _ _ _ HS.out))).mono ?_
            rintro x va71 ⟨ps, ds, rfl, hops, Ba73⟩
            have ba72 := ba53.trans (Ba73.mono ba53.size)
            have ha74 := ha55.below Ba73 (Nat.le_refl _)
            have ha75 : OW va71 V.heap.size 5 1 ps ls ds (sec2.map B) := hops.mono ba53.size
            refine hK.out _ _ (trivial) (fun hHeld => ?_)
            clear hK K
            try simp only [Act.put, List.getElem_toArray, List.getElem_cons_succ, List.getElem_cons_zero, List.setIfInBounds_toArray, List.set_cons_zero, List.set_cons_succ]
            refine wpAnyH_ready (rs := [8]) (by kernel_rfl) (by simp) (AllReadyH.cons rfl (fun K hK => ?_) AllReadyH.nil)
            go_simp
            go_at_call 18
            refine ((Hc3.out va71 (BLS.out va71 ba72 _ _ _ _ HP.out))).mono ?_
            rintro x va76 ⟨pp, dp, rfl, hopp, Ba78⟩
            have ba77 := ba72.trans (Ba78.mono ba72.size)
            have ha79 := ha74.below Ba78 (Nat.le_refl _)
            have ha80 := ha75.below Ba78 (Nat.le_refl _)
            have ha81 : OW va76 V.heap.size 5 1 pp lp dp (par2.map B) := hopp.mono ba72.size
            refine hK.out _ _ (trivial) (fun hHeld => ?_)
            clear hK K
            try simp only [Act.put, List.getElem_toArray, List.getElem_cons_succ, List.getElem_cons_zero, List.setIfInBounds_toArray, List.set_cons_zero, List.set_cons_succ]
            exact hka.out va76 pi di ps ds pp dp ⟨ba77, ha79, ha80, ha81⟩
        case qa5b =>
          have q := ((HSV.out.next b0).z).c3
          go_simp
          refine hK.out _ _ (trivial) (fun hHeld => ?_)
          clear hK K q
          try simp only [Act.put, List.getElem_toArray, List.getElem_cons_succ, List.getElem_cons_zero, List.setIfInBounds_toArray, List.set_cons_zero, List.set_cons_succ]
          refine wpAnyH_ready (rs := [2]) (by kernel_rfl) (by simp) (AllReadyH.cons rfl (fun K hK => ?_) AllReadyH.nil)
          go_simp
          go_at_call 18
          refine ((Hc1.out V (BLS.out V b0 _ _ _ _ HI.out))).mono ?_
          rintro x va84 ⟨pi, di, rfl, hopi, Ba86⟩
          have ba85 := b0.trans (Ba86.mono b0.size)
          have ha87 : OW va84 V.heap.size 5 1 pi li di (id2.map B) := hopi.mono b0.size
          refine hK.out _ _ (trivial) (fun hHeld => ?_)
          clear hK K
          try simp only [Act.put, List.getElem_toArray, List.getElem_cons_succ, List.getElem_cons_zero, List.setIfInBounds_toArray, List.set_cons_zero, List.set_cons_succ]
          refine wpAnyH_take (i := 9) (v := .pointer (some ⟨b, 1, none⟩)) rfl (by kernel_rfl) (by kernel_rfl) (by kernel_rfl) (fun _ _ _ h => h) (Or.inl ⟨by rfl, fun w h => by go_simp⟩) hHeld ?_
          try simp only [Act.put, List.getElem_toArray, List.getElem_cons_succ, List.getElem_cons_zero, List.setIfInBounds_toArray, List.set_cons_zero, List.set_cons_succ]
          refine wpAnyH_ready (rs := [5]) (by kernel_rfl) (by simp) (AllReadyH.cons rfl (fun K hK => ?_) AllReadyH.nil)
          go_simp
          go_at_call 18
          refine ((Hc2.out va84 (BLS.out va84 ba85 _ _ _ _ HS.out))).mono ?_
          rintro x va88 ⟨ps, ds, rfl, hops, Ba90⟩
          have ba89 := ba85.trans (Ba90.mono ba85.size)
          have ha91 := ha87.below Ba90 (Nat.le_refl _)
          have ha92 : OW va88 V.heap.size 5 1 ps ls ds (sec2.map B) := hops.mono ba85.size
          refine hK.out _ _ (trivial) (fun hHeld => ?_)
          clear hK K
          try simp only [Act.put, List.getElem_toArray, List.getElem_cons_succ, List.getElem_cons_zero, List.setIfInBounds_toArray, List.set_cons_zero, List.set_cons_succ]
          refine wpAnyH_ready (rs := [8]) (by kernel_rfl) (by simp) (AllReadyH.cons rfl (fun K hK => ?_) AllReadyH.nil)
          go_simp
          go_at_call 18
          refine ((Hc3.out va88 (BLS.out va88 ba89 _ _ _ _ HP.out))).mono ?_
          rintro x va93 ⟨pp, dp, rfl, hopp, Ba95⟩
          have ba94 := ba89.trans (Ba95.mono ba89.size)
          have ha96 := ha91.below Ba95 (Nat.le_refl _)
          have ha97 := ha92.below Ba95 (Nat.le_refl _)
          have ha98 : OW va93 V.heap.size 5 1 pp lp dp (par2.map B) := hopp.mono ba89.size
          refine hK.out _ _ (trivial) (fun hHeld => ?_)
          clear hK K
          try simp only [Act.put, List.getElem_toArray, List.getElem_cons_succ, List.getElem_cons_zero, List.setIfInBounds_toArray, List.set_cons_zero, List.set_cons_succ]
          exact hka.out va93 pi di ps ds pp dp ⟨ba94, ha96, ha97, ha98⟩
      case qa2c =>
        have q := ((HSV.out.next b0).z).c3
        go_simp
        refine hK.out _ _ (trivial) (fun hHeld => ?_)
        clear hK K q
        try simp only [Act.put, List.getElem_toArray, List.getElem_cons_succ, List.getElem_cons_zero, List.setIfInBounds_toArray, List.set_cons_zero, List.set_cons_succ]
        refine wpAnyH_ready (rs := [2, 4]) (by kernel_rfl) (by simp) (AllReadyH.cons rfl (fun K hK => ?qa7a) (AllReadyH.cons rfl (fun K hK => ?qa7b) AllReadyH.nil))
        case qa7a =>
          go_simp
          go_at_call 18
          refine ((Hc1.out V (BLS.out V b0 _ _ _ _ HI.out))).mono ?_
          rintro x va101 ⟨pi, di, rfl, hopi, Ba103⟩
          have ba102 := b0.trans (Ba103.mono b0.size)
          have ha104 : OW va101 V.heap.size 5 1 pi li di (id2.map B) := hopi.mono b0.size
          refine hK.out _ _ (trivial) (fun hHeld => ?_)
          clear hK K
          try simp only [Act.put, List.getElem_toArray, List.getElem_cons_succ, List.getElem_cons_zero, List.setIfInBounds_toArray, List.set_cons_zero, List.set_cons_succ]
          refine wpAnyH_ready (rs := [4]) (by kernel_rfl) (by simp) (AllReadyH.cons rfl (fun K hK => ?_) AllReadyH.nil)
          have q := ((HSV.out.next ba102).z).c2
          go_simp
          refine hK.out _ _ (trivial) (fun hHeld => ?_)
          clear hK K q
          try simp only [Act.put, List.getElem_toArray, List.getElem_cons_succ, List.getElem_cons_zero, List.setIfInBounds_toArray, List.set_cons_zero, List.set_cons_succ]
          refine wpAnyH_take (i := 9) (v := .pointer (some ⟨b, 1, none⟩)) rfl (by kernel_rfl) (by kernel_rfl) (by kernel_rfl) (fun _ _ _ h => h) (Or.inl ⟨by rfl, fun w h => by go_simp⟩) hHeld ?_
          try simp only [Act.put, List.getElem_toArray, List.getElem_cons_succ, List.getElem_cons_zero, List.setIfInBounds_toArray, List.set_cons_zero, List.set_cons_succ]
          refine wpAnyH_ready (rs := [5]) (by kernel_rfl) (by simp) (AllReadyH.cons rfl (fun K hK => ?_) AllReadyH.nil)
          go_simp
          go_at_call 18
          refine ((Hc2.out va101 (BLS.out va101 ba102 _ _ _ _ HS.out))).mono ?_
          rintro x va107 ⟨ps, ds, rfl, hops, Ba109⟩
          have ba108 := ba102.trans (Ba109.mono ba102.size)
          have ha110 := ha104.below Ba109 (Nat.le_refl _)
          have ha111 : OW va107 V.heap.size 5 1 ps ls ds (sec2.map B) := hops.mono ba102.size
          refine hK.out _ _ (trivial) (fun hHeld => ?_)
          clear hK K
          try simp only [Act.put, List.getElem_toArray, List.getElem_cons_succ, List.getElem_cons_zero, List.setIfInBounds_toArray, List.set_cons_zero, List.set_cons_succ]
          refine wpAnyH_ready (rs := [8]) (by kernel_rfl) (by simp) (AllReadyH.cons rfl (fun K hK => ?_) AllReadyH.nil)
          go_simp
          go_at_call 18
          refine ((Hc3.out va107 (BLS.out va107 ba108 _ _ _ _ HP.out))).mono ?_
          rintro x va112 ⟨pp, dp, rfl, hopp, Ba114⟩
          have ba113 := ba108.trans (Ba114.mono ba108.size)
          have ha115 := ha110.below Ba114 (Nat.le_refl _)
          have ha116 := ha111.below Ba114 (Nat.le_refl _)
          have ha117 : OW va112 V.heap.size 5 1 pp lp dp (par2.map B) := hopp.mono ba108.size
          refine hK.out _ _ (trivial) (fun hHeld => ?_)
          clear hK K
          try simp only [Act.put, List.getElem_toArray, List.getElem_cons_succ, List.getElem_cons_zero, List.setIfInBounds_toArray, List.set_cons_zero, List.set_cons_succ]
          exact hka.out va112 pi di ps ds pp dp ⟨ba113, ha115, ha116, ha117⟩
        case qa7b =>
          have q := ((HSV.out.next b0).z).c2
          go_simp
          refine hK.out _ _ (trivial) (fun hHeld => ?_)
          clear hK K q
          try simp only [Act.put, List.getElem_toArray, List.getElem_cons_succ, List.getElem_cons_zero, List.setIfInBounds_toArray, List.set_cons_zero, List.set_cons_succ]
          refine wpAnyH_ready (rs := [2]) (by kernel_rfl) (by simp) (AllReadyH.cons rfl (fun K hK => ?_) AllReadyH.nil)
          go_simp
          go_at_call 18
          refine ((Hc1.out V (BLS.out V b0 _ _ _ _ HI.out))).mono ?_
          rintro x va120 ⟨pi, di, rfl, hopi, Ba122⟩
          have ba121 := b0.trans (Ba122.mono b0.size)
          have ha123 : OW va120 V.heap.size 5 1 pi li di (id2.map B) := hopi.mono b0.size
          refine hK.out _ _ (trivial) (fun hHeld => ?_)
          clear hK K
          try simp only [Act.put, List.getElem_toArray, List.getElem_cons_succ, List.getElem_cons_zero, List.setIfInBounds_toArray, List.set_cons_zero, List.set_cons_succ]
          refine wpAnyH_take (i := 9) (v := .pointer (some ⟨b, 1, none⟩)) rfl (by kernel_rfl) (by kernel_rfl) (by kernel_rfl) (fun _ _ _ h => h) (Or.inl ⟨by rfl, fun w h => by go_simp⟩) hHeld ?_
          try simp only [Act.put, List.getElem_toArray, List.getElem_cons_succ, List.getElem_cons_zero, List.setIfInBounds_toArray, List.set_cons_zero, List.set_cons_succ]
          refine wpAnyH_ready (rs := [5]) (by kernel_rfl) (by simp) (AllReadyH.cons rfl (fun K hK => ?_) AllReadyH.nil)
          go_simp
          go_at_call 18
          refine ((Hc2.out va120 (BLS.out va120 ba121 _ _ _ _ HS.out))).mono ?_
          rintro x va124 ⟨ps, ds, rfl, hops, Ba126⟩
          have ba125 := ba121.trans (Ba126.mono ba121.size)
          have ha127 := ha123.below Ba126 (Nat.le_refl _)
          have ha128 : OW va124 V.heap.size 5 1 ps ls ds (sec2.map B) := hops.mono ba121.size
          refine hK.out _ _ (trivial) (fun hHeld => ?_)
          clear hK K
          try simp only [Act.put, List.getElem_toArray, List.getElem_cons_succ, List.getElem_cons_zero, List.setIfInBounds_toArray, List.set_cons_zero, List.set_cons_succ]
          refine wpAnyH_ready (rs := [8]) (by kernel_rfl) (by simp) (AllReadyH.cons rfl (fun K hK => ?_) AllReadyH.nil)
          go_simp
          go_at_call 18
          refine ((Hc3.out va124 (BLS.out va124 ba125 _ _ _ _ HP.out))).mono ?_
          rintro x va129 ⟨pp, dp, rfl, hopp, Ba131⟩
          have ba130 := ba125.trans (Ba131.mono ba125.size)
          have ha132 := ha127.below Ba131 (Nat.le_refl _)
          have ha133 := ha128.below Ba131 (Nat.le_refl _)
          have ha134 : OW va129 V.heap.size 5 1 pp lp dp (par2.map B) := hopp.mono ba125.size
          refine hK.out _ _ (trivial) (fun hHeld => ?_)
          clear hK K
          try simp only [Act.put, List.getElem_toArray, List.getElem_cons_succ, List.getElem_cons_zero, List.setIfInBounds_toArray, List.set_cons_zero, List.set_cons_succ]
          exact hka.out va129 pi di ps ds pp dp ⟨ba130, ha132, ha133, ha134⟩
    case qa1b =>
      have q := ((HSV.out.next b0).z).c2
      go_simp
      refine hK.out _ _ (trivial) (fun hHeld => ?_)
      clear hK K q
      try simp only [Act.put, List.getElem_toArray, List.getElem_cons_succ, List.getElem_cons_zero, List.setIfInBounds_toArray, List.set_cons_zero, List.set_cons_succ]
      refine wpAnyH_ready (rs := [1, 7]) (by kernel_rfl) (by simp) (AllReadyH.cons rfl (fun K hK => ?qa8a) (AllReadyH.cons rfl (fun K hK => ?qa8b) AllReadyH.nil))
      case qa8a =>
        have q := ((HSV.out.next b0).z).c1
        go_simp
        refine hK.out _ _ (trivial) (fun hHeld => ?_)
        clear hK K q
        try simp only [Act.put, List.getElem_toArray, List.getElem_cons_succ, List.getElem_cons_zero, List.setIfInBounds_toArray, List.set_cons_zero, List.set_cons_succ]
        refine wpAnyH_ready (rs := [2, 7]) (by kernel_rfl) (by simp) (AllReadyH.cons rfl (fun K hK => ?qa9a) (AllReadyH.cons rfl (fun K hK => ?qa9b) AllReadyH.nil))
        case qa9a =>
          go_simp
          go_at_call 18
          refine ((Hc1.out V (BLS.out V b0 _ _ _ _ HI.out))).mono ?_
          rintro x va139 ⟨pi, di, rfl, hopi, Ba141⟩
          have ba140 := b0.trans (Ba141.mono b0.size)
          have ha142 : OW va139 V.heap.size 5 1 pi li di (id2.map B) := hopi.mono b0.size
          refine hK.out _ _ (trivial) (fun hHeld => ?_)
          clear hK K
          try simp only [Act.put, List.getElem_toArray, List.getElem_cons_succ, List.getElem_cons_zero, List.setIfInBounds_toArray, List.set_cons_zero, List.set_cons_succ]
          refine wpAnyH_ready (rs := [5, 7]) (by kernel_rfl) (by simp) (AllReadyH.cons rfl (fun K hK => ?qa10a) (AllReadyH.cons rfl (fun K hK => ?qa10b) AllReadyH.nil))
          case qa10a =>
            go_simp
            go_at_call 18
            refine ((Hc2.out va139 (BLS.out va139 ba140 _ _ _ _ HS.out))).mono ?_
            rintro x va143 ⟨ps, ds, rfl, hops, Ba145⟩
            have ba144 := ba140.trans (Ba145.mono ba140.size)
            have ha146 := ha142.below Ba145 (Nat.le_refl _)
            have ha147 : OW va143 V.heap.size 5 1 ps ls ds (sec2.map B) := hops.mono ba140.size
            refine hK.out _ _ (trivial) (fun hHeld => ?_)
            clear hK K
            try simp only [Act.put, List.getElem_toArray, List.getElem_cons_succ, List.getElem_cons_zero, List.setIfInBounds_toArray, List.set_cons_zero, List.set_cons_succ]
            refine wpAnyH_ready (rs := [7]) (by kernel_rfl) (by simp) (AllReadyH.cons rfl (fun K hK => ?_) AllReadyH.nil)
            have q := ((HSV.out.next ba144).z).c3
            go_simp
            refine hK.out _ _ (trivial) (fun hHeld => ?_)
            clear hK K q
            try simp only [Act.put, List.getElem_toArray, List.getElem_cons_succ, List.getElem_cons_zero, List.setIfInBounds_toArray, List.set_cons_zero, List.set_cons_succ]
            refine wpAnyH_take (i := 9) (v := .pointer (some ⟨b, 1, none⟩)) rfl (by kernel_rfl) (by kernel_rfl) (by kernel_rfl) (fun _ _ _ h => h) (Or.inl ⟨by rfl, fun w h => by go_simp⟩) hHeld ?_
            try simp only [Act.put, List.getElem_toArray, List.getElem_cons_succ, List.getElem_cons_zero, List.setIfInBounds_toArray, List.set_cons_zero, List.set_cons_succ]
            refine wpAnyH_ready (rs := [8]) (by kernel_rfl) (by simp) (AllReadyH.cons rfl (fun K hK => ?_) AllReadyH.nil)
            go_simp
            go_at_call 18
            refine ((Hc3.out va143 (BLS.out va143 ba144 _ _ _ _ HP.out))).mono ?_
            rintro x va150 ⟨pp, dp, rfl, hopp, Ba152⟩
            have ba151 := ba144.trans (Ba152.mono ba144.size)
            have ha153 := ha146.below Ba152 (Nat.le_refl _)
            have ha154 := ha147.below Ba152 (Nat.le_refl _)
            have ha155 : OW va150 V.heap.size 5 1 pp lp dp (par2.map B) := hopp.mono ba144.size
            refine hK.out _ _ (trivial) (fun hHeld => ?_)
            clear hK K
            try simp only [Act.put, List.getElem_toArray, List.getElem_cons_succ, List.getElem_cons_zero, List.setIfInBounds_toArray, List.set_cons_zero, List.set_cons_succ]
            exact hka.out va150 pi di ps ds pp dp ⟨ba151, ha153, ha154, ha155⟩
          case qa10b =>
            have q := ((HSV.out.next ba140).z).c3
            go_simp
            refine hK.out _ _ (trivial) (fun hHeld => ?_)
            clear hK K q
            try simp only [Act.put, List.getElem_toArray, List.getElem_cons_succ, List.getElem_cons_zero, List.setIfInBounds_toArray, List.set_cons_zero, List.set_cons_succ]
            refine wpAnyH_take (i := 9) (v := .pointer (some ⟨b, 1, none⟩)) rfl (by kernel_rfl) (by kernel_rfl) (by kernel_rfl) (fun _ _ _ h => h) (Or.inl ⟨by rfl, fun w h => by go_simp⟩) hHeld ?_
            try simp only [Act.put, List.getElem_toArray, List.getElem_cons_succ, List.getElem_cons_zero, List.setIfInBounds_toArray, List.set_cons_zero, List.set_cons_succ]
            refine wpAnyH_ready (rs := [5]) (by kernel_rfl) (by simp) (AllReadyH.cons rfl (fun K hK => ?_) AllReadyH.nil)
            go_simp
            go_at_call 18
            refine ((Hc2.out va139 (BLS.out va139 ba140 _ _ _ _ HS.out))).mono ?_
            rintro x va158 ⟨ps, ds, rfl, hops, Ba160⟩
            have ba159 := ba140.trans (Ba160.mono ba140.size)
            have ha161 := ha142.below Ba160 (Nat.le_refl _)
            have ha162 : OW va158 V.heap.size 5 1 ps ls ds (sec2.map B) := hops.mono ba140.size
            refine hK.out _ _ (trivial) (fun hHeld => ?_)
            clear hK K
            try simp only [Act.put, List.getElem_toArray, List.getElem_cons_succ, List.getElem_cons_zero, List.setIfInBounds_toArray, List.set_cons_zero, List.set_cons_succ]
            refine wpAnyH_ready (rs := [8]) (by kernel_rfl) (by simp) (AllReadyH.cons rfl (fun K hK => ?_) AllReadyH.nil)
            go_simp
            go_at_call 18
            refine ((Hc3.out va158 (BLS.out va158 ba159 _ _ _ _ HP.out))).mono ?_
            rintro x va163 ⟨pp, dp, rfl, hopp, Ba165⟩
            have ba164 := ba159.trans (Ba165.mono ba159.size)
            have ha166 := ha161.below Ba165 (Nat.le_refl _)
            have ha167 := ha162.below Ba165 (Nat.le_refl _)
            have ha168 : OW va163 V.heap.size 5 1 pp lp dp (par2.map B) := hopp.mono ba159.size
            refine hK.out _ _ (trivial) (fun hHeld => ?_)
            clear hK K
            try simp only [Act.put, List.getElem_toArray, List.getElem_cons_succ, List.getElem_cons_zero, List.setIfInBounds_toArray, List.set_cons_zero, List.set_cons_succ]
            exact hka.out va163 pi di ps ds pp dp ⟨ba164, ha166, ha167, ha168⟩
        case qa9b =>
          have q := ((HSV.out.next b0).z).c3
          go_simp
          refine hK.out _ _ (trivial) (fun hHeld => ?_)
          clear hK K q
          try simp only [Act.put, List.getElem_toArray, List.getElem_cons_succ, List.getElem_cons_zero, List.setIfInBounds_toArray, List.set_cons_zero, List.set_cons_succ]
          refine wpAnyH_ready (rs := [2]) (by kernel_rfl) (by simp) (AllReadyH.cons rfl (fun K hK => ?_) AllReadyH.nil)
          go_simp
          go_at_call 18
          refine ((Hc1.out V (BLS.out V b0 _ _ _ _ HI.out))).mono ?_
          rintro x va171 ⟨pi, di, rfl, hopi, Ba173⟩
          have ba172 := b0.trans (Ba173.mono b0.size)
          have ha174 : OW va171 V.heap.size 5 1 pi li di (id2.map B) := hopi.mono b0.size
          refine hK.out _ _ (trivial) (fun hHeld => ?_)
          clear hK K
          try simp only [Act.put, List.getElem_toArray, List.getElem_cons_succ, List.getElem_cons_zero, List.setIfInBounds_toArray, List.set_cons_zero, List.set_cons_succ]
          refine wpAnyH_take (i := 9) (v := .pointer (some ⟨b, 1, none⟩)) rfl (by kernel_rfl) (by kernel_rfl) (by kernel_rfl) (fun _ _ _ h => h) (Or.inl ⟨by rfl, fun w h => by go_simp⟩) hHeld ?_
          try simp only [Act.put, List.getElem_toArray, List.getElem_cons_succ, List.getElem_cons_zero, List.setIfInBounds_toArray, List.set_cons_zero, List.set_cons_succ]
          refine wpAnyH_ready (rs := [5]) (by kernel_rfl) (by simp) (AllReadyH.cons rfl (fun K hK => ?_) AllReadyH.nil)
          go_simp
          go_at_call 18
          refine ((Hc2.out va171 (BLS.out va171 ba172 _ _ _ _ HS.out))).mono ?_
          rintro x va175 ⟨ps, ds, rfl, hops, Ba177⟩
          have ba176 := ba172.trans (Ba177.mono ba172.size)
          have ha178 := ha174.below Ba177 (Nat.le_refl _)
          have ha179 : OW va175 V.heap.size 5 1 ps ls ds (sec2.map B) := hops.mono ba172.size
          refine hK.out _ _ (trivial) (fun hHeld => ?_)
          clear hK K
          try simp only [Act.put, List.getElem_toArray, List.getElem_cons_succ, List.getElem_cons_zero, List.setIfInBounds_toArray, List.set_cons_zero, List.set_cons_succ]
          refine wpAnyH_ready (rs := [8]) (by kernel_rfl) (by simp) (AllReadyH.cons rfl (fun K hK => ?_) AllReadyH.nil)
          go_simp
          go_at_call 18
          refine ((Hc3.out va175 (BLS.out va175 ba176 _ _ _ _ HP.out))).mono ?_
          rintro x va180 ⟨pp, dp, rfl, hopp, Ba182⟩
          have ba181 := ba176.trans (Ba182.mono ba176.size)
          have ha183 := ha178.below Ba182 (Nat.le_refl _)
          have ha184 := ha179.below Ba182 (Nat.le_refl _)
          have ha185 : OW va180 V.heap.size 5 1 pp lp dp (par2.map B) := hopp.mono ba176.size
          refine hK.out _ _ (trivial) (fun hHeld => ?_)
          clear hK K
          try simp only [Act.put, List.getElem_toArray, List.getElem_cons_succ, List.getElem_cons_zero, List.setIfInBounds_toArray, List.set_cons_zero, List.set_cons_succ]
          exact hka.out va180 pi di ps ds pp dp ⟨ba181, ha183, ha184, ha185⟩
      case qa8b =>
        have q := ((HSV.out.next b0).z).c3
        go_simp
        refine hK.out _ _ (trivial) (fun hHeld => ?_)
        clear hK K q
        try simp only [Act.put, List.getElem_toArray, List.getElem_cons_succ, List.getElem_cons_zero, List.setIfInBounds_toArray, List.set_cons_zero, List.set_cons_succ]
        refine wpAnyH_ready (rs := [1]) (by kernel_rfl) (by simp) (AllReadyH.cons rfl (fun K hK => ?_) AllReadyH.nil)
        have q := ((HSV.out.next b0).z).c1
        go_simp
        refine hK.out _ _ (trivial) (fun hHeld => ?_)
        clear hK K q
        try simp only [Act.put, List.getElem_toArray, List.getElem_cons_succ, List.getElem_cons_zero, List.setIfInBounds_toArray, List.set_cons_zero, List.set_cons_succ]
        refine wpAnyH_ready (rs := [2]) (by kernel_rfl) (by simp) (AllReadyH.cons rfl (fun K hK => ?_) AllReadyH.nil)
        go_simp
        go_at_call 18
        refine ((Hc1.out V (BLS.out V b0 _ _ _ _ HI.out))).mono ?_
        rintro x va190 ⟨pi, di, rfl, hopi, Ba192⟩
        have ba191 := b0.trans (Ba192.mono b0.size)
        have ha193 : OW va190 V.heap.size 5 1 pi li di (id2.map B) := hopi.mono b0.size
        refine hK.out _ _ (trivial) (fun hHeld => ?_)
        clear hK K
        try simp only [Act.put, List.getElem_toArray, List.getElem_cons_succ, List.getElem_cons_zero, List.setIfInBounds_toArray, List.set_cons_zero, List.set_cons_succ]
        refine wpAnyH_take (i := 9) (v := .pointer (some ⟨b, 1, none⟩)) rfl (by kernel_rfl) (by kernel_rfl) (by kernel_rfl) (fun _ _ _ h => h) (Or.inl ⟨by rfl, fun w h => by go_simp⟩) hHeld ?_
        try simp only [Act.put, List.getElem_toArray, List.getElem_cons_succ, List.getElem_cons_zero, List.setIfInBounds_toArray, List.set_cons_zero, List.set_cons_succ]
        refine wpAnyH_ready (rs := [5]) (by kernel_rfl) (by simp) (AllReadyH.cons rfl (fun K hK => ?_) AllReadyH.nil)
        go_simp
        go_at_call 18
        refine ((Hc2.out va190 (BLS.out va190 ba191 _ _ _ _ HS.out))).mono ?_
        rintro x va194 ⟨ps, ds, rfl, hops, Ba196⟩
        have ba195 := ba191.trans (Ba196.mono ba191.size)
        have ha197 := ha193.below Ba196 (Nat.le_refl _)
        have ha198 : OW va194 V.heap.size 5 1 ps ls ds (sec2.map B) := hops.mono ba191.size
        refine hK.out _ _ (trivial) (fun hHeld => ?_)
        clear hK K
        try simp only [Act.put, List.getElem_toArray, List.getElem_cons_succ, List.getElem_cons_zero, List.setIfInBounds_toArray, List.set_cons_zero, List.set_cons_succ]
        refine wpAnyH_ready (rs := [8]) (by kernel_rfl) (by simp) (AllReadyH.cons rfl (fun K hK => ?_) AllReadyH.nil)
        go_simp
        go_at_call 18
        refine ((Hc3.out va194 (BLS.out va194 ba195 _ _ _ _ HP.out))).mono ?_
        rintro x va199 ⟨pp, dp, rfl, hopp, Ba201⟩
        have ba200 := ba195.trans (Ba201.mono ba195.size)
        have ha202 := ha197.below Ba201 (Nat.le_refl _)
        have ha203 := ha198.below Ba201 (Nat.le_refl _)
        have ha204 : OW va199 V.heap.size 5 1 pp lp dp (par2.map B) := hopp.mono ba195.size
        refine hK.out _ _ (trivial) (fun hHeld => ?_)
        clear hK K
        try simp only [Act.put, List.getElem_toArray, List.getElem_cons_succ, List.getElem_cons_zero, List.setIfInBounds_toArray, List.set_cons_zero, List.set_cons_succ]
        exact hka.out va199 pi di ps ds pp dp ⟨ba200, ha202, ha203, ha204⟩
    case qa1c =>
      have q := ((HSV.out.next b0).z).c3
      go_simp
      refine hK.out _ _ (trivial) (fun hHeld => ?_)
      clear hK K q
      try simp only [Act.put, List.getElem_toArray, List.getElem_cons_succ, List.getElem_cons_zero, List.setIfInBounds_toArray, List.set_cons_zero, List.set_cons_succ]
      refine wpAnyH_ready (rs := [1, 4]) (by kernel_rfl) (by simp) (AllReadyH.cons rfl (fun K hK => ?qa11a) (AllReadyH.cons rfl (fun K hK => ?qa11b) AllReadyH.nil))
      case qa11a =>
        have q := ((HSV.out.next b0).z).c1
        go_simp
        refine hK.out _ _ (trivial) (fun hHeld => ?_)
        clear hK K q
        try simp only [Act.put, List.getElem_toArray, List.getElem_cons_succ, List.getElem_cons_zero, List.setIfInBounds_toArray, List.set_cons_zero, List.set_cons_succ]
        refine wpAnyH_ready (rs := [2, 4]) (by kernel_rfl) (by simp) (AllReadyH.cons rfl (fun K hK => ?qa12a) (AllReadyH.cons rfl (fun K hK => ?qa12b) AllReadyH.nil))
        case qa12a =>
          go_simp
          go_at_call 18
          refine ((Hc1.out V (BLS.out V b0 _ _ _ _ HI.out))).mono ?_
          rintro x va209 ⟨pi, di, rfl, hopi, Ba211⟩
          have ba210 := b0.trans (Ba211.mono b0.size)
          have ha212 : OW va209 V.heap.size 5 1 pi li di (id2.map B) := hopi.mono b0.size
          refine hK.out _ _ (trivial) (fun hHeld => ?_)
          clear hK K
          try simp only [Act.put, List.getElem_toArray, List.getElem_cons_succ, List.getElem_cons_zero, List.setIfInBounds_toArray, List.set_cons_zero, List.set_cons_succ]
          refine wpAnyH_ready (rs := [4]) (by kernel_rfl) (by simp) (AllReadyH.cons rfl (fun K hK => ?_) AllReadyH.nil)
          have q := ((HSV.out.next ba210).z).c2
          go_simp
          refine hK.out _ _ (trivial) (fun hHeld => ?_)
          clear hK K q
          try simp only [Act.put, List.getElem_toArray, List.getElem_cons_succ, List.getElem_cons_zero, List.setIfInBounds_toArray, List.set_cons_zero, List.set_cons_succ]
          refine wpAnyH_take (i := 9) (v := .pointer (some ⟨b, 1, none⟩)) rfl (by kernel_rfl) (by kernel_rfl) (by kernel_rfl) (fun _ _ _ h => h) (Or.inl ⟨by rfl, fun w h => by go_simp⟩) hHeld ?_
          try simp only [Act.put, List.getElem_toArray, List.getElem_cons_succ, List.getElem_cons_zero, List.setIfInBounds_toArray, List.set_cons_zero, List.set_cons_succ]
          refine wpAnyH_ready (rs := [5]) (by kernel_rfl) (by simp) (AllReadyH.cons rfl (fun K hK => ?_) AllReadyH.nil)
          go_simp
          go_at_call 18
          refine ((Hc2.out va209 (BLS.out va209 ba210 _ _ _ _ HS.out))).mono ?_
          rintro x va215 ⟨ps, ds, rfl, hops, Ba217⟩
          have ba216 := ba210.trans (Ba217.mono ba210.size)
          have ha218 := ha212.below Ba217 (Nat.le_refl _)
          have ha219 : OW va215 V.heap.size 5 1 ps ls ds (sec2.map B) := hops.mono ba210.size
          refine hK.out _ _ (trivial) (fun hHeld => ?_)
          clear hK K
          try simp only [Act.put, List.getElem_toArray, List.getElem_cons_succ, List.getElem_cons_zero, List.setIfInBounds_toArray, List.set_cons_zero, List.set_cons_succ]
          refine wpAnyH_ready (rs := [8]) (by kernel_rfl) (by simp) (AllReadyH.cons rfl (fun K hK => ?_) AllReadyH.nil)
          go_simp
          go_at_call 18
          refine ((Hc3.out va215 (BLS.out va215 ba216 _ _ _ _ HP.out))).mono ?_
          rintro x va220 ⟨pp, dp, rfl, hopp, Ba222⟩
          have ba221 := ba216.trans (Ba222.mono ba216.size)
          have ha223 := ha218.below Ba222 (Nat.le_refl _)
          have ha224 := ha219.below Ba222 (Nat.le_refl _)
          have ha225 : OW va220 V.heap.size 5 1 pp lp dp (par2.map B) := hopp.mono ba216.size
          refine hK.out _ _ (trivial) (fun hHeld => ?_)
          clear hK K
          try simp only [Act.put, List.getElem_toArray, List.getElem_cons_succ, List.getElem_cons_zero, List.setIfInBounds_toArray, List.set_cons_zero, List.set_cons_succ]
          exact hka.out va220 pi di ps ds pp dp ⟨ba221, ha223, ha224, ha225⟩
        case qa12b =>
          have q := ((HSV.out.next b0).z).c2
          go_simp
          refine hK.out _ _ (trivial) (fun hHeld => ?_)
          clear hK K q
          try simp only [Act.put, List.getElem_toArray, List.getElem_cons_succ, List.getElem_cons_zero, List.setIfInBounds_toArray, List.set_cons_zero, List.set_cons_succ]
          refine wpAnyH_ready (rs := [2]) (by kernel_rfl) (by simp) (AllReadyH.cons rfl (fun K hK => ?_) AllReadyH.nil)
          go_simp
          go_at_call 18
          refine ((Hc1.out V (BLS.out V b0 _ _ _ _ HI.out))).mono ?_
          rintro x va228 ⟨pi, di, rfl, hopi, Ba230⟩
          have ba229 := b0.trans (Ba230.mono b0.size)
          have ha231 : OW va228 V.heap.size 5 1 pi li di (id2.map B) := hopi.mono b0.size
          refine hK.out _ _ (trivial) (fun hHeld => ?_)
          clear hK K
          try simp only [Act.put, List.getElem_toArray, List.getElem_cons_succ, List.getElem_cons_zero, List.setIfInBounds_toArray, List.set_cons_zero, List.set_cons_succ]
          refine wpAnyH_take (i := 9) (v := .pointer (some ⟨b, 1, none⟩)) rfl (by kernel_rfl) (by kernel_rfl) (by kernel_rfl) (fun _ _ _ h => h) (Or.inl ⟨by rfl, fun w h => by go_simp⟩) hHeld ?_
          try simp only [Act.put, List.getElem_toArray, List.getElem_cons_succ, List.getElem_cons_zero, List.setIfInBounds_toArray, List.set_cons_zero, List.set_cons_succ]
          refine wpAnyH_ready (rs := [5]) (by kernel_rfl) (by simp) (AllReadyH.cons rfl (fun K hK => ?_) AllReadyH.nil)
          go_simp
          go_at_call 18
          refine ((Hc2.out va228 (BLS.out va228 ba229 _ _ _ _ HS.out))).mono ?_
          rintro x va232 ⟨ps, ds, rfl, hops, Ba234⟩
          have ba233 := ba229.trans (Ba234.mono ba229.size)
          have ha235 := ha231.below Ba234 (Nat.le_refl _)
          have ha236 : OW va232 V.heap.size 5 1 ps ls ds (sec2.map B) := hops.mono ba229.size
          refine hK.out _ _ (trivial) (fun hHeld => ?_)
          clear hK K
          try simp only [Act.put, List.getElem_toArray, List.getElem_cons_succ, List.getElem_cons_zero, List.setIfInBounds_toArray, List.set_cons_zero, List.set_cons_succ]
          refine wpAnyH_ready (rs := [8]) (by kernel_rfl) (by simp) (AllReadyH.cons rfl (fun K hK => ?_) AllReadyH.nil)
          go_simp
          go_at_call 18
          refine ((Hc3.out va232 (BLS.out va232 ba233 _ _ _ _ HP.out))).mono ?_
          rintro x va237 ⟨pp, dp, rfl, hopp, Ba239⟩
          have ba238 := ba233.trans (Ba239.mono ba233.size)
          have ha240 := ha235.below Ba239 (Nat.le_refl _)
          have ha241 := ha236.below Ba239 (Nat.le_refl _)
          have ha242 : OW va237 V.heap.size 5 1 pp lp dp (par2.map B) := hopp.mono ba233.size
          refine hK.out _ _ (trivial) (fun hHeld => ?_)
          clear hK K
          try simp only [Act.put, List.getElem_toArray, List.getElem_cons_succ, List.getElem_cons_zero, List.setIfInBounds_toArray, List.set_cons_zero, List.set_cons_succ]
          exact hka.out va237 pi di ps ds pp dp ⟨ba238, ha240, ha241, ha242⟩
      case qa11b =>
        have q := ((HSV.out.next b0).z).c2
        go_simp
        refine hK.out _ _ (trivial) (fun hHeld => ?_)
        clear hK K q
        try simp only [Act.put, List.getElem_toArray, List.getElem_cons_succ, List.getElem_cons_zero, List.setIfInBounds_toArray, List.set_cons_zero, List.set_cons_succ]
        refine wpAnyH_ready (rs := [1]) (by kernel_rfl) (by simp) (AllReadyH.cons rfl (fun K hK => ?_) AllReadyH.nil)
        have q := ((HSV.out.next b0).z).c1
        go_simp
        refine hK.out _ _ (trivial) (fun hHeld => ?_)
        clear hK K q
        try simp only [Act.put, List.getElem_toArray, List.getElem_cons_succ, List.getElem_cons_zero, List.setIfInBounds_toArray, List.set_cons_zero, List.set_cons_succ]
        refine wpAnyH_ready (rs := [2]) (by kernel_rfl) (by simp) (AllReadyH.cons rfl (fun K hK => ?_) AllReadyH.nil)
        go_simp
        go_at_call 18
        refine ((Hc1.out V (BLS.out V b0 _ _ _ _ HI.out))).mono ?_
        rintro x va247 ⟨pi, di, rfl, hopi, Ba249⟩
        have ba248 := b0.trans (Ba249.mono b0.size)
        have ha250 : OW va247 V.heap.size 5 1 pi li di (id2.map B) := hopi.mono b0.size
        refine hK.out _ _ (trivial) (fun hHeld => ?_)
        clear hK K
        try simp only [Act.put, List.getElem_toArray, List.getElem_cons_succ, List.getElem_cons_zero, List.setIfInBounds_toArray, List.set_cons_zero, List.set_cons_succ]
        refine wpAnyH_take (i := 9) (v := .pointer (some ⟨b, 1, none⟩)) rfl (by kernel_rfl) (by kernel_rfl) (by kernel_rfl) (fun _ _ _ h => h) (Or.inl ⟨by rfl, fun w h => by go_simp⟩) hHeld ?_
        try simp only [Act.put, List.getElem_toArray, List.getElem_cons_succ, List.getElem_cons_zero, List.setIfInBounds_toArray, List.set_cons_zero, List.set_cons_succ]
        refine wpAnyH_ready (rs := [5]) (by kernel_rfl) (by simp) (AllReadyH.cons rfl (fun K hK => ?_) AllReadyH.nil)
        go_simp
        go_at_call 18
        refine ((Hc2.out va247 (BLS.out va247 ba248 _ _ _ _ HS.out))).mono ?_
        rintro x va251 ⟨ps, ds, rfl, hops, Ba253⟩
        have ba252 := ba248.trans (Ba253.mono ba248.size)
        have ha254 := ha250.below Ba253 (Nat.le_refl _)
        have ha255 : OW va251 V.heap.size 5 1 ps ls ds (sec2.map B) := hops.mono ba248.size
        refine hK.out _ _ (trivial) (fun hHeld => ?_)
        clear hK K
        try simp only [Act.put, List.getElem_toArray, List.getElem_cons_succ, List.getElem_cons_zero, List.setIfInBounds_toArray, List.set_cons_zero, List.set_cons_succ]
        refine wpAnyH_ready (rs := [8]) (by kernel_rfl) (by simp) (AllReadyH.cons rfl (fun K hK => ?_) AllReadyH.nil)
        go_simp
        go_at_call 18
        refine ((Hc3.out va251 (BLS.out va251 ba252 _ _ _ _ HP.out))).mono ?_
        rintro x va256 ⟨pp, dp, rfl, hopp, Ba258⟩
        have ba257 := ba252.trans (Ba258.mono ba252.size)
        have ha259 := ha254.below Ba258 (Nat.le_refl _)
        have ha260 := ha255.below Ba258 (Nat.le_refl _)
        have ha261 : OW va256 V.heap.size 5 1 pp lp dp (par2.map B) := hopp.mono ba252.size
        refine hK.out _ _ (trivial) (fun hHeld => ?_)
        clear hK K
        try simp only [Act.put, List.getElem_toArray, List.getElem_cons_succ, List.getElem_cons_zero, List.setIfInBounds_toArray, List.set_cons_zero, List.set_cons_succ]
        exact hka.out va256 pi di ps ds pp dp ⟨ba257, ha259, ha260, ha261⟩
  case resta =>
    rintro va pi di ps ds pp dp ⟨ba, ha_Opi, ha_Ops, ha_Opp⟩
    have hHeld := trivial
    have hz0 := HSV.out.next ba
    refine wpAnyH_ready (rs := [10]) (by kernel_rfl) (by simp) (AllReadyH.cons rfl (fun K hK => ?_) AllReadyH.nil)
    have u := hz0.z.c1
    have f := hz0.z.fr 1
    go_simp
    refine hK.out _ _ trivial (fun hHeld => ?_)
    clear hK K u f
    try simp only [Act.put, List.getElem_toArray, List.getElem_cons_succ, List.getElem_cons_zero, List.setIfInBounds_toArray, List.set_cons_zero, List.set_cons_succ]
    have hz1 := hz0.s1 (.slice pi li di)
    have oi1 := OW.setOther ha_Opi (ad := ⟨b, 1, none⟩) (fun x hx he => by have h1 := (ha_Opi.base_le hx).1; have he : x.block = b := he; omega) (.slice pi li di)
    have os1 := OW.setOther ha_Ops (ad := ⟨b, 1, none⟩) (fun x hx he => by have h1 := (ha_Ops.base_le hx).1; have he : x.block = b := he; omega) (.slice pi li di)
    have op1 := OW.setOther ha_Opp (ad := ⟨b, 1, none⟩) (fun x hx he => by have h1 := (ha_Opp.base_le hx).1; have he : x.block = b := he; omega) (.slice pi li di)
    obtain ⟨v1, hv1⟩ : ∃ x, va.setCell ⟨b, 1, none⟩ (.slice pi li di) = x := ⟨_, rfl⟩
    rw [hv1] at hz1 oi1 os1 op1 ⊢
    clear hz0 ha_Opi ha_Ops ha_Opp
    refine wpAnyH_take (i := 11) (v := .pointer (some ⟨b, 2, none⟩)) rfl (by kernel_rfl) (by kernel_rfl) (by kernel_rfl) (fun _ _ _ h => h) (Or.inl ⟨by rfl, fun w h => by go_simp⟩) hHeld ?_
    try simp only [Act.put, List.getElem_toArray, List.getElem_cons_succ, List.getElem_cons_zero, List.setIfInBounds_toArray, List.set_cons_zero, List.set_cons_succ]
    refine wpAnyH_ready (rs := [12]) (by kernel_rfl) (by simp) (AllReadyH.cons rfl (fun K hK => ?_) AllReadyH.nil)
    have u := hz1.z.c2
    have f := hz1.z.fr 2
    go_simp
    refine hK.out _ _ trivial (fun hHeld => ?_)
    clear hK K u f
    try simp only [Act.put, List.getElem_toArray, List.getElem_cons_succ, List.getElem_cons_zero, List.setIfInBounds_toArray, List.set_cons_zero, List.set_cons_succ]
    have hz2 := hz1.s2 (.slice ps ls ds)
    have oi2 := OW.setOther oi1 (ad := ⟨b, 2, none⟩) (fun x hx he => by have h1 := (oi1.base_le hx).1; have he : x.block = b := he; omega) (.slice ps ls ds)
    have os2 := OW.setOther os1 (ad := ⟨b, 2, none⟩) (fun x hx he => by have h1 := (os1.base_le hx).1; have he : x.block = b := he; omega) (.slice ps ls ds)
    have op2 := OW.setOther op1 (ad := ⟨b, 2, none⟩) (fun x hx he => by have h1 := (op1.base_le hx).1; have he : x.block = b := he; omega) (.slice ps ls ds)
    obtain ⟨v2, hv2⟩ : ∃ x, v1.setCell ⟨b, 2, none⟩ (.slice ps ls ds) = x := ⟨_, rfl⟩
    rw [hv2] at hz2 oi2 os2 op2 ⊢
    clear hz1 oi1 os1 op1
    refine wpAnyH_take (i := 13) (v := .pointer (some ⟨b, 3, none⟩)) rfl (by kernel_rfl) (by kernel_rfl) (by kernel_rfl) (fun _ _ _ h => h) (Or.inl ⟨by rfl, fun w h => by go_simp⟩) hHeld ?_
    try simp only [Act.put, List.getElem_toArray, List.getElem_cons_succ, List.getElem_cons_zero, List.setIfInBounds_toArray, List.set_cons_zero, List.set_cons_succ]
    refine wpAnyH_ready (rs := [14]) (by kernel_rfl) (by simp) (AllReadyH.cons rfl (fun K hK => ?_) AllReadyH.nil)
    have u := hz2.z.c3
    have f := hz2.z.fr 3
    go_simp
    refine hK.out _ _ trivial (fun hHeld => ?_)
    clear hK K u f
    try simp only [Act.put, List.getElem_toArray, List.getElem_cons_succ, List.getElem_cons_zero, List.setIfInBounds_toArray, List.set_cons_zero, List.set_cons_succ]
    have hz3 := hz2.s3 (.slice pp lp dp)
    have oi3 := OW.setOther oi2 (ad := ⟨b, 3, none⟩) (fun x hx he => by have h1 := (oi2.base_le hx).1; have he : x.block = b := he; omega) (.slice pp lp dp)
    have os3 := OW.setOther os2 (ad := ⟨b, 3, none⟩) (fun x hx he => by have h1 := (os2.base_le hx).1; have he : x.block = b := he; omega) (.slice pp lp dp)
    have op3 := OW.setOther op2 (ad := ⟨b, 3, none⟩) (fun x hx he => by have h1 := (op2.base_le hx).1; have he : x.block = b := he; omega) (.slice pp lp dp)
    obtain ⟨v3, hv3⟩ : ∃ x, v2.setCell ⟨b, 3, none⟩ (.slice pp lp dp) = x := ⟨_, rfl⟩
    rw [hv3] at hz3 oi3 os3 op3 ⊢
    clear hz2 oi2 os2 op2
    refine wpAnyH_done (by kernel_rfl) ?_ _
    try simp only [Act.put, List.getElem_toArray, List.getElem_cons_succ, List.getElem_cons_zero]
    have HZ := Lib.hid hz3
    have HO := Lib.hid (And.intro oi3 (And.intro os3 op3))
    have hsz : V.heap.size ≤ v3.heap.size := by rw [← hv3, ← hv2, ← hv1]; simpa [World.setCell] using ba.size
    clear hz3 oi3 os3 op3 hv1 hv2 hv3 hHeld
    go_upto_region 3 with (fail)
    have zA := AB_zeros v3 (g := v3.heap.size) rfl
    have HZA := Lib.hid zA
    have gA := World.grownBy_alloc v3 (.cells #[.int .u8 0, .int .u8 0, .int .u8 0, .int .u8 0, .int .u8 0, .int .u8 0, .int .u8 0, .int .u8 0, .int .u8 0, .int .u8 0, .int .u8 0, .int .u8 0, .int .u8 0, .int .u8 0, .int .u8 0, .int .u8 0, .int .u8 0, .int .u8 0, .int .u8 0, .int .u8 0, .int .u8 0, .int .u8 0, .int .u8 0, .int .u8 0, .int .u8 0, .int .u8 0, .int .u8 0, .int .u8 0, .int .u8 0, .int .u8 0, .int .u8 0, .int .u8 0] 26) none
    have HZ4 := Lib.hid (HZ.out.grow gA (fun k h => by cases h))
    have HO4 := Lib.hid (And.intro (OW.grown HO.out.1 gA (fun _ _ h => by cases h)) (And.intro (OW.grown HO.out.2.1 gA (fun _ _ h => by cases h)) (OW.grown HO.out.2.2 gA (fun _ _ h => by cases h))))
    have hgb : b + 1 + 1 < v3.heap.size := HZ.out.z2.lt
    have HLO := Lib.hid (And.intro (fun ad ha => (HO.out.1.base_le (ad := ad) ha).2) (And.intro (fun ad ha => (HO.out.2.1.base_le (ad := ad) ha).2) (fun ad ha => (HO.out.2.2.base_le (ad := ad) ha).2)))
    obtain ⟨g, hg⟩ : ∃ g, v3.heap.size = g := ⟨_, rfl⟩
    rw [hg] at HZA hgb HLO hsz ⊢
    obtain ⟨v4, hv4⟩ : ∃ x, v3.alloc (.cells #[.int .u8 0, .int .u8 0, .int .u8 0, .int .u8 0, .int .u8 0, .int .u8 0, .int .u8 0, .int .u8 0, .int .u8 0, .int .u8 0, .int .u8 0, .int .u8 0, .int .u8 0, .int .u8 0, .int .u8 0, .int .u8 0, .int .u8 0, .int .u8 0, .int .u8 0, .int .u8 0, .int .u8 0, .int .u8 0, .int .u8 0, .int .u8 0, .int .u8 0, .int .u8 0, .int .u8 0, .int .u8 0, .int .u8 0, .int .u8 0, .int .u8 0, .int .u8 0] 26) = x := ⟨_, rfl⟩
    rw [hv4] at HZA HZ4 HO4 ⊢
    obtain ⟨U, hU⟩ : ∃ x, v4.drew = x := ⟨_, rfl⟩
    have HZU := Lib.hid (show SdW w U b sv _ _ _ _ by rw [← hU]; exact HZ4.out.drew)
    have HAU := Lib.hid (show AB U g 26 (List.replicate 32 0) by rw [← hU]; exact HZA.out)
    have HOU := Lib.hid (show OW U V.heap.size 5 1 pi li di (id2.map B) ∧ OW U V.heap.size 5 1 ps ls ds (sec2.map B) ∧ OW U V.heap.size 5 1 pp lp dp (par2.map B) by rw [← hU]; exact HO4.out)
    have hc4 : BS U a4 n4 c4 rnd := RS.below HR.out HZU.out.bel (by rw [HB.out]; exact Nat.le_refl _)
    have HC4 := Lib.hid hc4
    clear zA gA hg HZ HO HZA HZ4 HO4 hv4 hc4
    refine wp_region_held_drew (S := fun w' => w'.cell? ⟨b, 4, none⟩ = some (.slice a4 n4 c4)) (by kernel_rfl) (by rw [hU]; exact HZU.out.z.c4) (fun hHeld => ?_)
    rw [hU] at hHeld ⊢
    refine wpAnyH_take (i := 0) (v := .slice (some ⟨g, 0, none⟩) 32 32) rfl (by kernel_rfl) (by kernel_rfl) (by kernel_rfl) (fun _ _ _ h => h) (Or.inl ⟨by rfl, fun w h => by go_simp⟩) hHeld ?_
    try simp only [Act.put, List.getElem_toArray, List.getElem_cons_zero, List.setIfInBounds_toArray, List.set_cons_zero, List.set_cons_succ]
    refine wpAnyH_take (i := 1) (v := .pointer (some ⟨b, 4, none⟩)) rfl (by kernel_rfl) (by kernel_rfl) (by kernel_rfl) (fun _ _ _ h => h) (Or.inl ⟨by rfl, fun w h => by go_simp⟩) hHeld ?_
    try simp only [Act.put, List.getElem_toArray, List.getElem_cons_succ, List.getElem_cons_zero, List.setIfInBounds_toArray, List.set_cons_zero, List.set_cons_succ]
    refine wpAnyH_take (i := 2) (v := .slice a4 n4 c4) rfl (by kernel_rfl) (by kernel_rfl) (by kernel_rfl) (fun _ _ _ h => h) (Or.inl ⟨by rfl, fun w h => by go_simp⟩) hHeld ?_
    try simp only [Act.put, List.getElem_toArray, List.getElem_cons_succ, List.getElem_cons_zero, List.setIfInBounds_toArray, List.set_cons_zero, List.set_cons_succ]
    refine wpAnyH_ready (rs := [3]) (by kernel_rfl) (by simp) (AllReadyH.cons rfl (fun K hK => ?_) AllReadyH.nil)
    refine W_copy_B tB _ _ rfl rfl rfl HAU.out (by simp) HC4.out ?_
    intro u3 hA3 hg3
    have hR3g : g < u3.heap.size := Nat.lt_of_lt_of_le HAU.out.lt hg3.size
    have hVs3 : V.heap.size ≤ u3.heap.size := Nat.le_trans hsz (Nat.le_of_lt hR3g)
    have hZ3 := HZU.out.grow hg3 (fun k hk => by cases hk; exact hgb)
    have hR3 : AB u3 g 26 R := by
      have hn4 : rnd.length = n4 := BS.len HR.out
      rw [show R = List.take 32 rnd ++ (List.replicate 32 (0 : UInt8)).drop n4 by rw [← HRE.out, ← hn4]; rfl]
      exact hA3
    have o3i := OW.grown HOU.out.1 hg3 (fun ad ha he => by have := HLO.out.1 ad ha; injection he with he; omega)
    have o3s := OW.grown HOU.out.2.1 hg3 (fun ad ha he => by have := HLO.out.2.1 ad ha; injection he with he; omega)
    have o3p := OW.grown HOU.out.2.2 hg3 (fun ad ha he => by have := HLO.out.2.2 ad ha; injection he with he; omega)
    refine hK.out _ _ hZ3.z.c4 (fun hHeld => ?_)
    clear hK K
    try simp only [Act.put, List.getElem_toArray, List.getElem_cons_succ, List.getElem_cons_zero, List.setIfInBounds_toArray, List.set_cons_zero, List.set_cons_succ]
    refine wpAnyH_done (by kernel_rfl) ?_ _
    try simp only [Act.put, List.getElem_toArray, List.getElem_cons_succ, List.getElem_cons_zero]
    have HZ3 := Lib.hid hZ3
    have HR3 := Lib.hid hR3
    have HO3 := Lib.hid (And.intro o3i (And.intro o3s o3p))
    clear hZ3 hR3 hA3 hg3 o3i o3s o3p hHeld HC4 HZU HAU HOU
    have hbr : BS u3 (some ⟨g, 0, none⟩) 32 32 R := HR3.out.bs32 hRl
    have HBR := Lib.hid hbr
    clear hbr
    have qb := HZ3.out.z.lt
    go_upto_region 5 with (go_at_call 20; refine (copy_any u3 HBR.out (by omega)).mono ?_; rintro x w5 ⟨pr, dr, rfl, ho5, B5⟩; have u := (HZ3.out.next B5).z.c4; have f := (HZ3.out.next B5).z.fr 4)
    clear u f
    have hZ6 := (HZ3.out.next B5).s4 (.slice pr 32 dr)
    have hb3 : b < u3.heap.size := HZ3.out.z.lt
    have hVs := hVs3
    have oth : ∀ {W : World} {base n c : Nat} {a : Option Addr} {vs : List Value}, OW W base 5 1 a n c vs → b < base → OW (W.setCell ⟨b, 4, none⟩ (.slice pr 32 dr)) base 5 1 a n c vs := fun h hb => OW.setOther h (ad := ⟨b, 4, none⟩) (fun x hx he => by have h1 := (h.base_le hx).1; have he : x.block = b := he; omega) _
    have o6i := oth (HO3.out.1.below B5 (Nat.le_refl _)) lb
    have o6s := oth (HO3.out.2.1.below B5 (Nat.le_refl _)) lb
    have o6p := oth (HO3.out.2.2.below B5 (Nat.le_refl _)) lb
    have o6r := (oth ho5 hb3).mono hVs
    have hA6 : AB (w5.setCell ⟨b, 4, none⟩ (.slice pr 32 dr)) g 26 R := (HR3.out.bl B5 HR3.out.lt).grown (grownBy_setCell w5 ⟨b, 4, none⟩ _) (fun he => by injection he with he; have he : g = b := he; omega)
    obtain ⟨w6, hw6⟩ : ∃ x, w5.setCell ⟨b, 4, none⟩ (.slice pr 32 dr) = x := ⟨_, rfl⟩
    rw [hw6] at hZ6 o6i o6s o6p o6r hA6 ⊢
    obtain ⟨X, hX⟩ : ∃ x, w6.drew = x := ⟨_, rfl⟩
    have HZX := Lib.hid (show SdW w X b sv _ _ _ _ by rw [← hX]; exact hZ6.drew)
    have HAX := Lib.hid (show AB X g 26 R by rw [← hX]; exact hA6)
    have HOX := Lib.hid (show OW X V.heap.size 5 1 pi li di (id2.map B) ∧ OW X V.heap.size 5 1 ps ls ds (sec2.map B) ∧ OW X V.heap.size 5 1 pp lp dp (par2.map B) ∧ OW X V.heap.size 5 1 pr 32 dr (R.map B) by rw [← hX]; exact ⟨o6i, o6s, o6p, o6r⟩)
    have lA := HAX.out.lt
    have x0 : Below X.heap.size X X := Below.refl _ _
    have hu32 := Tryd.underlying26
    have hiR := len32 hRl
    clear hZ6 oth o6i o6s o6p o6r hA6 hw6 B5 ho5 HZ3 HR3 HO3 HBR qb
    refine wp_region_held_drew (S := fun w' => SZ w' b sv (.slice pi li di) (.slice ps ls ds) (.slice pp lp dp) (.slice pr 32 dr) ∧ AB w' g 26 R) (by kernel_rfl) (by rw [hX]; exact ⟨HZX.out.z, HAX.out⟩) (fun hHeld => ?_)
    rw [hX] at hHeld ⊢
    refine wpAnyH_take (i := 0) (v := .pointer (some ⟨b, 0, none⟩)) rfl (by kernel_rfl) (by kernel_rfl) (by kernel_rfl) (fun _ _ _ h => h) (Or.inl ⟨by rfl, fun w h => by go_simp⟩) hHeld ?_
    try simp only [Act.put, List.getElem_toArray, List.getElem_cons_zero, List.setIfInBounds_toArray, List.set_cons_zero, List.set_cons_succ]
    refine wpAnyH_take (i := 1) (v := .bool sv) rfl (by kernel_rfl) (by kernel_rfl) (by kernel_rfl) (fun _ _ _ h => h) (Or.inl ⟨by rfl, fun w h => by have h2 := h.1.c0; go_simp⟩) hHeld ?_
    try simp only [Act.put, List.getElem_toArray, List.getElem_cons_succ, List.getElem_cons_zero, List.setIfInBounds_toArray, List.set_cons_zero, List.set_cons_succ]
    refine wpAnyH_take (i := 2) (v := .pointer (some ⟨b, 1, none⟩)) rfl (by kernel_rfl) (by kernel_rfl) (by kernel_rfl) (fun _ _ _ h => h) (Or.inl ⟨by rfl, fun w h => by go_simp⟩) hHeld ?_
    try simp only [Act.put, List.getElem_toArray, List.getElem_cons_succ, List.getElem_cons_zero, List.setIfInBounds_toArray, List.set_cons_zero, List.set_cons_succ]
    refine wpAnyH_take (i := 3) (v := .slice pi li di) rfl (by kernel_rfl) (by kernel_rfl) (by kernel_rfl) (fun _ _ _ h => h) (Or.inl ⟨by rfl, fun w h => by have h2 := h.1.c1; go_simp⟩) hHeld ?_
    try simp only [Act.put, List.getElem_toArray, List.getElem_cons_succ, List.getElem_cons_zero, List.setIfInBounds_toArray, List.set_cons_zero, List.set_cons_succ]
    refine wpAnyH_take (i := 5) (v := .pointer (some ⟨b, 2, none⟩)) rfl (by kernel_rfl) (by kernel_rfl) (by kernel_rfl) (fun _ _ _ h => h) (Or.inl ⟨by rfl, fun w h => by go_simp⟩) hHeld ?_
    try simp only [Act.put, List.getElem_toArray, List.getElem_cons_succ, List.getElem_cons_zero, List.setIfInBounds_toArray, List.set_cons_zero, List.set_cons_succ]
    refine wpAnyH_take (i := 6) (v := .slice ps ls ds) rfl (by kernel_rfl) (by kernel_rfl) (by kernel_rfl) (fun _ _ _ h => h) (Or.inl ⟨by rfl, fun w h => by have h2 := h.1.c2; go_simp⟩) hHeld ?_
    try simp only [Act.put, List.getElem_toArray, List.getElem_cons_succ, List.getElem_cons_zero, List.setIfInBounds_toArray, List.set_cons_zero, List.set_cons_succ]
    refine wpAnyH_take (i := 8) (v := .pointer (some ⟨b, 3, none⟩)) rfl (by kernel_rfl) (by kernel_rfl) (by kernel_rfl) (fun _ _ _ h => h) (Or.inl ⟨by rfl, fun w h => by go_simp⟩) hHeld ?_
    try simp only [Act.put, List.getElem_toArray, List.getElem_cons_succ, List.getElem_cons_zero, List.setIfInBounds_toArray, List.set_cons_zero, List.set_cons_succ]
    refine wpAnyH_take (i := 9) (v := .slice pp lp dp) rfl (by kernel_rfl) (by kernel_rfl) (by kernel_rfl) (fun _ _ _ h => h) (Or.inl ⟨by rfl, fun w h => by have h2 := h.1.c3; go_simp⟩) hHeld ?_
    try simp only [Act.put, List.getElem_toArray, List.getElem_cons_succ, List.getElem_cons_zero, List.setIfInBounds_toArray, List.set_cons_zero, List.set_cons_succ]
    refine wpAnyH_take (i := 11) rfl (by kernel_rfl) (by kernel_rfl) (by kernel_rfl) (fun _ _ _ h => h) (yieldsIf_load_mid (by rfl) _ _ rfl _ _ rfl _ _ (fun w h => h.2.rng) hu32 rfl hiR) hHeld ?_
    try simp only [Act.put, List.getElem_toArray, List.getElem_cons_succ, List.getElem_cons_zero, List.setIfInBounds_toArray, List.set_cons_zero, List.set_cons_succ]
    refine wpAnyH_take (i := 13) rfl (by kernel_rfl) (by kernel_rfl) (by kernel_rfl) (fun _ _ _ h => h) (yieldsIf_load_mid (by rfl) _ _ rfl _ _ rfl _ _ (fun w h => h.1.rng) Tryd.underlying24 rfl iSide) hHeld ?_
    try simp only [Act.put, List.getElem_toArray, List.getElem_cons_succ, List.getElem_cons_zero, List.setIfInBounds_toArray, List.set_cons_zero, List.set_cons_succ]
    refine wpAnyH_ready (rs := [4]) (by kernel_rfl) (by simp) (AllReadyH.cons rfl (fun K hK => ?_) AllReadyH.nil)
    go_simp
    go_at_call 20
    refine ((copy_any X (OW.rs ((HOX.out.1).below x0 (Nat.le_refl _))) (by have := HL.out; omega))).mono ?_
    rintro x vc1 ⟨qi, ei, rfl, hoqi, Bc3⟩
    have bc2 := x0.trans (Bc3.mono x0.size)
    have hc4 : OW vc1 X.heap.size 5 1 qi li ei (id2.map B) := hoqi.mono x0.size
    refine hK.out _ _ ((And.intro (HZX.out.next bc2).z (HAX.out.bl bc2 lA))) (fun hHeld => ?_)
    clear hK K
    try simp only [Act.put, List.getElem_toArray, List.getElem_cons_succ, List.getElem_cons_zero, List.setIfInBounds_toArray, List.set_cons_zero, List.set_cons_succ]
    refine wpAnyH_ready (rs := [7]) (by kernel_rfl) (by simp) (AllReadyH.cons rfl (fun K hK => ?_) AllReadyH.nil)
    go_simp
    go_at_call 20
    refine ((copy_any vc1 (OW.rs ((HOX.out.2.1).below bc2 (Nat.le_refl _))) (by have := HL.out; omega))).mono ?_
    rintro x vc5 ⟨qs, es, rfl, hoqs, Bc7⟩
    have bc6 := bc2.trans (Bc7.mono bc2.size)
    have hc8 := hc4.below Bc7 (Nat.le_refl _)
    have hc9 : OW vc5 X.heap.size 5 1 qs ls es (sec2.map B) := hoqs.mono bc2.size
    refine hK.out _ _ ((And.intro (HZX.out.next bc6).z (HAX.out.bl bc6 lA))) (fun hHeld => ?_)
    clear hK K
    try simp only [Act.put, List.getElem_toArray, List.getElem_cons_succ, List.getElem_cons_zero, List.setIfInBounds_toArray, List.set_cons_zero, List.set_cons_succ]
    refine wpAnyH_ready (rs := [10]) (by kernel_rfl) (by simp) (AllReadyH.cons rfl (fun K hK => ?_) AllReadyH.nil)
    go_simp
    go_at_call 20
    refine ((copy_any vc5 (OW.rs ((HOX.out.2.2.1).below bc6 (Nat.le_refl _))) (by have := HL.out; omega))).mono ?_
    rintro x vc10 ⟨qp, ep, rfl, hoqp, Bc12⟩
    have bc11 := bc6.trans (Bc12.mono bc6.size)
    have hc13 := hc8.below Bc12 (Nat.le_refl _)
    have hc14 := hc9.below Bc12 (Nat.le_refl _)
    have hc15 : OW vc10 X.heap.size 5 1 qp lp ep (par2.map B) := hoqp.mono bc6.size
    refine hK.out _ _ ((And.intro (HZX.out.next bc11).z (HAX.out.bl bc11 lA))) (fun hHeld => ?_)
    clear hK K
    try simp only [Act.put, List.getElem_toArray, List.getElem_cons_succ, List.getElem_cons_zero, List.setIfInBounds_toArray, List.set_cons_zero, List.set_cons_succ]
    refine wpAnyH_ready (rs := [12]) (by kernel_rfl) (by simp) (AllReadyH.cons rfl (fun K hK => ?_) AllReadyH.nil)
    refine S_build rfl _ _ rfl (by simpa [Act.eval, SA.v] using builtC (sv := sv) (v1 := ⟨qi, li, ei⟩) (v2 := ⟨qs, ls, es⟩) (v3 := ⟨qp, lp, ep⟩) hRl) ?_
    refine hK.out _ _ (And.intro (HZX.out.next bc11).z (HAX.out.bl bc11 lA)) (fun hHeld => ?_)
    clear hK K
    try simp only [Act.put, List.getElem_toArray, List.getElem_cons_succ, List.getElem_cons_zero, List.setIfInBounds_toArray, List.set_cons_zero, List.set_cons_succ]
    refine wpAnyH_ready (rs := [14]) (by kernel_rfl) (by simp) (AllReadyH.cons rfl (fun K hK => ?_) AllReadyH.nil)
    refine S_storeRow rfl _ _ _ rfl rfl rfl ((HZX.out.next bc11).c) iConf (cfc_len z32_len) (cfc_len hRl) (cfc_one _ ⟨qi, li, ei⟩ ⟨qs, ls, es⟩ ⟨qp, lp, ep⟩ _) ?_
    intro y1 hy1 hg1
    have z1 : SZ y1 b sv (.slice pi li di) (.slice ps ls ds) (.slice pp lp dp) (.slice pr 32 dr) := ((HZX.out.next bc11).z).keep (hg1.block _ ((HZX.out.next bc11).z).lt (fun he => by injection he with he; omega))
    have z2 : SZ y1 (b + 1 + 1) false (.slice none 0 0) (.slice none 0 0) (.slice none 0 0) (.slice none 0 0) := ((HZX.out.next bc11).z2).keep (hg1.block _ ((HZX.out.next bc11).z2).lt (fun he => by injection he with he; omega))
    have al := (HAX.out.bl bc11 lA).grown hg1 (fun he => by injection he with he; omega)
    have hl3 : b + 1 + 1 < V.heap.size := (HSV.out.z2).lt
    have HX := Lib.hid (show SdW w X b sv (.slice pi li di) (.slice ps ls ds) (.slice pp lp dp) (.slice pr 32 dr) from HZX.out)
    have gr1 : ∀ {base n c : Nat} {a : Option Addr} {vs : List Value}, OW vc10 base 5 1 a n c vs → b + 1 + 1 < base → OW y1 base 5 1 a n c vs := fun h hb => OW.grown h hg1 (fun ad ha he => by have h1 := (h.base_le ha).1; injection he with he; omega)
    refine hK.out _ _ ⟨z1, al⟩ (fun hHeld => ?_)
    clear hK K
    try simp only [Act.put, List.getElem_toArray, List.getElem_cons_succ, List.getElem_cons_zero]
    refine wpAnyH_ready (rs := [15]) (by kernel_rfl) (by simp) (AllReadyH.cons rfl (fun K hK => ?_) AllReadyH.nil)
    refine S_storeRow (old := [.bool false, .slice none 0 0, .slice none 0 0, .slice none 0 0, .slice none 0 0]) rfl _ _ _ rfl rfl rfl z2 iSide rfl rfl (by intro v hv; simp at hv; rcases hv with rfl | rfl | rfl | rfl | rfl <;> rfl) ?_
    intro y2 hy2 hg2
    have gr2 : ∀ {base n c : Nat} {a : Option Addr} {vs : List Value}, OW y1 base 5 1 a n c vs → b + 1 + 1 < base → OW y2 base 5 1 a n c vs := fun h hb => OW.grown h hg2 (fun ad ha he => by have h1 := (h.base_le ha).1; injection he with he; omega)
    have hlX : b + 1 + 1 < X.heap.size := (HZX.out.z2).lt
    have y1' := (hg2.block (b + 1) ((Array.getElem?_eq_some_iff.1 hy1).1) (fun he => by injection he with he; omega)).trans hy1
    have HR := Lib.hid (And.intro y1' hy2)
    have bY : Below b w y2 := (((HZX.out.next bc11).bel).grown hg1 (Nat.le_of_lt ((HZX.out.next bc11).z).lt) (fun k hk => by cases hk; omega)).grown hg2 (Nat.le_of_lt z1.lt) (fun k hk => by cases hk; omega)
    have hlow : w.heap.size ≤ X.heap.size := HZX.out.bel.size
    have wV : w.heap.size ≤ V.heap.size := HSV.out.bel.size
    have HQ := Lib.hid (show SideQ w y2 X.heap.size id sec par rnd ⟨pi, li, di⟩ ⟨ps, ls, ds⟩ ⟨pp, lp, dp⟩ ⟨pr, 32, dr⟩ ⟨qi, li, ei⟩ ⟨qs, ls, es⟩ ⟨qp, lp, ep⟩ from by
      obtain ⟨e1, e2, e3⟩ := HE.out
      refine ⟨hlow, by rw [HB.out]; exact bY, ?_, ?_, ?_, ?_, fun ad ha => (HOX.out.1.base_le ha).2, fun ad ha => (HOX.out.2.1.base_le ha).2, fun ad ha => (HOX.out.2.2.1.base_le ha).2, fun ad ha => (HOX.out.2.2.2.base_le ha).2, ?_, ?_, ?_⟩
      · rw [e1]; exact (gr2 (gr1 (HOX.out.1.below bc11 (Nat.le_refl _)) hl3) hl3).mono wV
      · rw [e2]; exact (gr2 (gr1 (HOX.out.2.1.below bc11 (Nat.le_refl _)) hl3) hl3).mono wV
      · rw [e3]; exact (gr2 (gr1 (HOX.out.2.2.1.below bc11 (Nat.le_refl _)) hl3) hl3).mono wV
      · rw [HRE.out]; exact (gr2 (gr1 (HOX.out.2.2.2.below bc11 (Nat.le_refl _)) hl3) hl3).mono wV
      · rw [e1]; exact gr2 (gr1 hc13 hlX) hlX
      · rw [e2]; exact gr2 (gr1 hc14 hlX) hlX
      · rw [e3]; exact gr2 (gr1 hc15 hlX) hlX)
    refine hK.out _ _ ⟨z1.keep (hg2.block _ z1.lt (fun he => by injection he with he; omega)), al.grown hg2 (fun he => by injection he with he; omega)⟩ (fun hHeld => ?_)
    clear hK K z1 z2 al gr1 gr2 hy1 hg1 hy2 hg2 y1' bY hlow
    try simp only [Act.put, List.getElem_toArray, List.getElem_cons_succ, List.getElem_cons_zero]
    refine wpAnyH_done (by kernel_rfl) ?_ _
    try simp only [Act.put, List.getElem_toArray, List.getElem_cons_succ, List.getElem_cons_zero]
    clear hHeld
    have HC36 := Lib.hid (show (Tryd.prog.info? 28).map (·.size) = some (cfc sv (.slice qi li ei) (.slice qs ls es) (.slice qp lp ep) R).toArray.size by rw [List.size_toArray, cfc_len hRl]; exact iConf)
    go_wp2
    exact bodyPost_ret_by (results_rows2' rfl _ _ _ _ _ _ _ _ _ _ rfl rfl HR.out.1 HR.out.2 Tryd.underlying28 rfl Tryd.underlying24 rfl HC36.out iSide) rfl ⟨X.heap.size, ⟨pi, li, di⟩, ⟨ps, ls, ds⟩, ⟨pp, lp, dp⟩, ⟨pr, 32, dr⟩, ⟨qi, li, ei⟩, ⟨qs, ls, es⟩, ⟨qp, lp, ep⟩, by rw [HRE.out]; rfl, HQ.out⟩
end Go.Proofs.YtkhcpnmbhbhcgaaDoor

/- Greet's laws: what their openings hold. -/
set_option maxRecDepth 100000
set_option linter.unusedVariables false
namespace Go.Proofs.YtkhcpnmbhbhcgaaDoor
open Go.RowKit Go.Joins
theorem grown_newq {w w1 w2 : World} {row : Option Nat} {q : Nat} (h : w.grownBy w1 row) (k : w1.grownBy w2 (some q)) (hq : w.heap.size ≤ q) : w.grownBy w2 row :=
  ⟨k.os.trans h.os, k.tape.trans h.tape, k.output.trans h.output, Nat.le_trans h.size k.size, fun j hj hr => (k.block j (Nat.lt_of_lt_of_le hj h.size) (fun he => by injection he with he; omega)).trans (h.block j hj hr)⟩
theorem L_storeRow {w : World} {ops : Array Oper} {rest : List Oper} {o : Oper} {f : Act} {Q : Exit → Act → World → Prop} (hgd : o.guard = none) (t : TypeId) (x y : Operand) (ho : o.op = .store t x y)
    {g n : Nat} {t' : TypeId} {old new : List Value} (hx : f.eval x = .pointer (some ⟨g, 0, none⟩)) (hy : f.eval y = .agg new.toArray) (hA : w.heap[g]? = some (.cells old.toArray t' (0, 0))) (hi : (Tryd.prog.info? t).map (·.size) = some n) (hl : old.length = n) (hl2 : new.length = n) (h1 : ∀ v ∈ new, v.oneCell' = true)
    (h : ∀ w', w'.heap[g]? = some (.cells new.toArray t' (0, 0)) → w.grownBy w' (some g) → wpList Tryd.prog ops Q rest (f.put o.dst undef) w') : wpList Tryd.prog ops Q (o :: rest) f w := by
  refine wpList_store_row hgd t x y ho g _ hx hy t' _ hA (by rw [List.size_toArray, hl2]; exact hi) (by simp [hl, hl2]) (by rw [Array.all_eq_true_iff_forall_mem]; intro v hv; exact h1 v (by simpa using hv)) ?_
  exact h _ (setRow_heap _ _ _ _ _ _ hA) (grownBy_setRow w g _)
theorem SZ.s0 {w : World} {b : Nat} {sv : Bool} {v1 v2 v3 v4 : Value} (h : SZ w b sv v1 v2 v3 v4) (x : Bool) : SZ (w.setCell ⟨b, 0, none⟩ (.bool x)) b x v1 v2 v3 v4 := by unfold SZ at h ⊢; simp [World.setCell, Array.getElem?_modify, h]
/-- both sides, as the law has them in cells of its own -/
structure TwoZ (w W : World) (k : Nat) (s1 : Bool) (v1 v2 v3 v4 : Value) (s2 : Bool) (u1 u2 u3 u4 : Value) : Prop where
  a : SZ W k s1 v1 v2 v3 v4
  b : SZ W (k + 1) s2 u1 u2 u3 u4
  bel : Below k w W
section
variable {w W W' : World} {k : Nat} {s1 s2 : Bool} {v1 v2 v3 v4 u1 u2 u3 u4 : Value}
theorem TwoZ.lt (h : TwoZ w W k s1 v1 v2 v3 v4 s2 u1 u2 u3 u4) : k + 1 < W.heap.size := h.b.lt
theorem TwoZ.next (h : TwoZ w W k s1 v1 v2 v3 v4 s2 u1 u2 u3 u4) (hb : Below W.heap.size W W') : TwoZ w W' k s1 v1 v2 v3 v4 s2 u1 u2 u3 u4 :=
  ⟨h.a.bel hb, h.b.bel hb, h.bel.trans (hb.mono (Nat.le_of_lt h.a.lt))⟩
theorem TwoZ.grow (h : TwoZ w W k s1 v1 v2 v3 v4 s2 u1 u2 u3 u4) {row : Option Nat} (hg : W.grownBy W' row) (hr : ∀ j, row = some j → k + 1 < j) : TwoZ w W' k s1 v1 v2 v3 v4 s2 u1 u2 u3 u4 :=
  ⟨h.a.keep (hg.block _ h.a.lt (fun he => by have := hr _ he.symm; omega)), h.b.keep (hg.block _ h.b.lt (fun he => by have := hr _ he.symm; omega)), h.bel.grown hg (Nat.le_of_lt h.a.lt) (fun j hj => by have := hr j hj; omega)⟩
theorem TwoZ.a0 (h : TwoZ w W k s1 v1 v2 v3 v4 s2 u1 u2 u3 u4) (x : Bool) : TwoZ w (W.setCell ⟨k, 0, none⟩ (.bool x)) k x v1 v2 v3 v4 s2 u1 u2 u3 u4 := by
  have hg := grownBy_setCell W ⟨k, 0, none⟩ (.bool x)
  exact ⟨h.a.s0 x, h.b.keep (hg.block _ h.b.lt (fun he => by injection he with he; have he : k + 1 = k := he; omega)), h.bel.grown hg (Nat.le_of_lt h.a.lt) (fun j hj => by cases hj; exact Nat.le_refl _)⟩
theorem TwoZ.b0 (h : TwoZ w W k s1 v1 v2 v3 v4 s2 u1 u2 u3 u4) (x : Bool) : TwoZ w (W.setCell ⟨k + 1, 0, none⟩ (.bool x)) k s1 v1 v2 v3 v4 x u1 u2 u3 u4 := by
  have hg := grownBy_setCell W ⟨k + 1, 0, none⟩ (.bool x)
  exact ⟨h.a.keep (hg.block _ h.a.lt (fun he => by injection he with he; have he : k = k + 1 := he; omega)), h.b.s0 x, h.bel.grown hg (Nat.le_of_lt h.a.lt) (fun j hj => by cases hj; show k ≤ k + 1; omega)⟩
theorem TwoZ.b1 (h : TwoZ w W k s1 v1 v2 v3 v4 s2 u1 u2 u3 u4) (x : Value) : TwoZ w (W.setCell ⟨k + 1, 1, none⟩ (x)) k s1 v1 v2 v3 v4 s2 x u2 u3 u4 := by
  have hg := grownBy_setCell W ⟨k + 1, 1, none⟩ (x)
  exact ⟨h.a.keep (hg.block _ h.a.lt (fun he => by injection he with he; have he : k = k + 1 := he; omega)), h.b.s1 x, h.bel.grown hg (Nat.le_of_lt h.a.lt) (fun j hj => by cases hj; show k ≤ k + 1; omega)⟩
theorem TwoZ.b2 (h : TwoZ w W k s1 v1 v2 v3 v4 s2 u1 u2 u3 u4) (x : Value) : TwoZ w (W.setCell ⟨k + 1, 2, none⟩ (x)) k s1 v1 v2 v3 v4 s2 u1 x u3 u4 := by
  have hg := grownBy_setCell W ⟨k + 1, 2, none⟩ (x)
  exact ⟨h.a.keep (hg.block _ h.a.lt (fun he => by injection he with he; have he : k = k + 1 := he; omega)), h.b.s2 x, h.bel.grown hg (Nat.le_of_lt h.a.lt) (fun j hj => by cases hj; show k ≤ k + 1; omega)⟩
theorem TwoZ.seta (h : TwoZ w W k s1 v1 v2 v3 v4 s2 u1 u2 u3 u4) (hg : W.grownBy W' (some k)) {s1' : Bool} {v1' v2' v3' v4' : Value} (hk : SZ W' k s1' v1' v2' v3' v4') : TwoZ w W' k s1' v1' v2' v3' v4' s2 u1 u2 u3 u4 :=
  ⟨hk, h.b.keep (hg.block _ h.b.lt (fun he => by injection he with he; omega)), h.bel.grown hg (Nat.le_of_lt h.a.lt) (fun j hj => by cases hj; exact Nat.le_refl _)⟩
theorem TwoZ.setb (h : TwoZ w W k s1 v1 v2 v3 v4 s2 u1 u2 u3 u4) (hg : W.grownBy W' (some (k + 1))) {s1' : Bool} {v1' v2' v3' v4' : Value} (hk : SZ W' (k + 1) s1' v1' v2' v3' v4') : TwoZ w W' k s1 v1 v2 v3 v4 s1' v1' v2' v3' v4' :=
  ⟨h.a.keep (hg.block _ h.a.lt (fun he => by injection he with he; omega)), hk, h.bel.grown hg (Nat.le_of_lt h.a.lt) (fun j hj => by cases hj; omega)⟩
end
theorem TwoZ.start (w : World) (s1 : Bool) (v1 v2 v3 v4 : Value) (s2 : Bool) (u1 u2 u3 u4 : Value) : TwoZ w ((w.alloc (.cells #[.bool s1, v1, v2, v3, v4] 24)).alloc (.cells #[.bool s2, u1, u2, u3, u4] 24)) w.heap.size s1 v1 v2 v3 v4 s2 u1 u2 u3 u4 := by
  have h1 := heap_alloc_new w (.cells #[.bool s1, v1, v2, v3, v4] 24)
  obtain ⟨w1, e1⟩ : ∃ x, w.alloc (.cells #[.bool s1, v1, v2, v3, v4] 24) = x := ⟨_, rfl⟩
  have s1 : w1.heap.size = w.heap.size + 1 := by rw [← e1]; simp
  have b1 : Below w.heap.size w w1 := by rw [← e1]; exact below_alloc w _
  rw [e1] at h1 ⊢
  have h2 := heap_alloc_new w1 (.cells #[.bool s2, u1, u2, u3, u4] 24)
  have b2 := below_alloc w1 (.cells #[.bool s2, u1, u2, u3, u4] 24)
  rw [s1] at h2
  exact ⟨(b2.block _ (by omega)).trans h1, h2, btr b1 b2⟩
/-- a side's slices, where what the law makes of it lies -/
structure SQ (w : World) (id sec par : List UInt8) (i s p : SA) : Prop where
  bi : BS w i.a i.n i.c (id.take 80)
  bs : BS w s.a s.n s.c (sec.take 80)
  bp : BS w p.a p.n p.c (par.take 600)
  li : ∀ ad, i.a = some ad → ad.block < w.heap.size
  ls : ∀ ad, s.a = some ad → ad.block < w.heap.size
  lp : ∀ ad, p.a = some ad → ad.block < w.heap.size
theorem SQ.grow {w w' : World} {id sec par : List UInt8} {i s p : SA} {row : Option Nat} (h : SQ w id sec par i s p) (hg : w.grownBy w' row) (ni : ∀ ad, i.a = some ad → some ad.block ≠ row) (ns : ∀ ad, s.a = some ad → some ad.block ≠ row) (np : ∀ ad, p.a = some ad → some ad.block ≠ row) : SQ w' id sec par i s p :=
  ⟨RS.grown h.bi hg ni, RS.grown h.bs hg ns, RS.grown h.bp hg np, fun ad ha => Nat.lt_of_lt_of_le (h.li ad ha) hg.size, fun ad ha => Nat.lt_of_lt_of_le (h.ls ad ha) hg.size, fun ad ha => Nat.lt_of_lt_of_le (h.lp ad ha) hg.size⟩
theorem SQ.bel {w w' : World} {id sec par : List UInt8} {i s p : SA} (h : SQ w id sec par i s p) (hb : Below w.heap.size w w') : SQ w' id sec par i s p :=
  ⟨RS.below h.bi hb (Nat.le_refl _), RS.below h.bs hb (Nat.le_refl _), RS.below h.bp hb (Nat.le_refl _), fun ad ha => Nat.lt_of_lt_of_le (h.li ad ha) hb.size, fun ad ha => Nat.lt_of_lt_of_le (h.ls ad ha) hb.size, fun ad ha => Nat.lt_of_lt_of_le (h.lp ad ha) hb.size⟩
theorem SideQ.c {w w' : World} {N : Nat} {id sec par rnd : List UInt8} {i1 s1 p1 r1 i2 s2 p2 : SA} (h : SideQ w w' N id sec par rnd i1 s1 p1 r1 i2 s2 p2) : SQ w' id sec par i2 s2 p2 :=
  ⟨h.hi2.rs, h.hs2.rs, h.hp2.rs, fun ad ha => (h.hi2.base_le ha).2, fun ad ha => (h.hs2.base_le ha).2, fun ad ha => (h.hp2.base_le ha).2⟩
theorem SideQ.r {w w' : World} {N : Nat} {id sec par rnd : List UInt8} {i1 s1 p1 r1 i2 s2 p2 : SA} (h : SideQ w w' N id sec par rnd i1 s1 p1 r1 i2 s2 p2) : SQ w' id sec par i1 s1 p1 :=
  ⟨h.hi.rs, h.hs.rs, h.hp.rs, fun ad ha => (h.hi.base_le ha).2, fun ad ha => (h.hs.base_le ha).2, fun ad ha => (h.hp.base_le ha).2⟩
theorem SideQ.nc {w w' : World} {N : Nat} {id sec par rnd : List UInt8} {i1 s1 p1 r1 i2 s2 p2 : SA} (h : SideQ w w' N id sec par rnd i1 s1 p1 r1 i2 s2 p2) {k : Nat} (hk : k < w.heap.size) :
    ((∀ ad, i2.a = some ad → some ad.block ≠ some k) ∧ (∀ ad, s2.a = some ad → some ad.block ≠ some k) ∧ (∀ ad, p2.a = some ad → some ad.block ≠ some k)) ∧ ((∀ ad, i1.a = some ad → some ad.block ≠ some k) ∧ (∀ ad, s1.a = some ad → some ad.block ≠ some k) ∧ (∀ ad, p1.a = some ad → some ad.block ≠ some k)) := by
  have hl := h.low
  have e : ∀ {base n c : Nat} {a : Option Addr} {vs : List Value}, OW w' base 5 1 a n c vs → k < base → ∀ ad, a = some ad → some ad.block ≠ some k := fun ho hb ad ha he => by have := (ho.base_le ha).1; injection he with he; omega
  exact ⟨⟨e h.hi2 (by omega), e h.hs2 (by omega), e h.hp2 (by omega)⟩, ⟨e h.hi hk, e h.hs hk, e h.hp hk⟩⟩
theorem szcells (sv : Bool) (i s p r : SA) : ∀ v ∈ [Value.bool sv, i.v, s.v, p.v, r.v], v.oneCell' = true := by
  intro v hv; simp [SA.v] at hv; rcases hv with rfl | rfl | rfl | rfl | rfl <;> rfl
theorem L_loadG {w : World} {ops : Array Oper} {rest : List Oper} {o : Oper} {f : Act} {Q : Exit → Act → World → Prop} (hg : Region.wanted o (yielded ops f.tmps) = true) (ty : TypeId) (x : Operand) (ho : o.op = .load ty x)
    (b i : Nat) (hx : f.eval x = .pointer (some ⟨b, i, none⟩)) (cs : List Value) (d : TypeDesc) (hc : w.rangeAt b i cs) (hu : Tryd.prog.underlying ty = some d) (hd : d.isRow = true) (hi : (Tryd.prog.info? ty).map (·.size) = some cs.length)
    (h : wpList Tryd.prog ops Q rest (f.put o.dst (.agg cs.toArray)) w) : wpList Tryd.prog ops Q (o :: rest) f w :=
  wpList_on hg fun K hK => wp_load_mid ty x ho b i hx cs d hc hu hd hi (hK _ _ h)
theorem grown_mono {w w' : World} {row : Option Nat} (h : w.grownBy w' none) : w.grownBy w' row := ⟨h.os, h.tape, h.output, h.size, fun j hj _ => h.block j hj (fun he => by cases he)⟩
theorem grown_alloc2 (w : World) (o p : Obj) : w.grownBy ((w.alloc o).alloc p) none := grown_trans (World.grownBy_alloc w o none) (World.grownBy_alloc _ p none)
theorem heap_alloc2a (w : World) (o p : Obj) : ((w.alloc o).alloc p).heap[w.heap.size]? = some o := by
  rw [Below.heap_alloc (w.alloc o) p w.heap.size (by simp)]; exact heap_alloc_new w o
theorem heap_alloc2b (w : World) (o p : Obj) : ((w.alloc o).alloc p).heap[w.heap.size + 1]? = some p := heap_alloc_at _ p (by simp)
end Go.Proofs.YtkhcpnmbhbhcgaaDoor

/- law13.GreetMeets: its walk. -/
set_option maxRecDepth 100000
set_option linter.unusedVariables false
namespace Go.Proofs.YtkhcpnmbhbhcgaaDoor
open Go.RowKit Go.Joins
set_option maxHeartbeats 8000000 in
theorem greetMeets_walk (W : World) (sa sb : Bool) {a1 a2 a3 a4 b1 b2 b3 b4 : Option Addr} {n1 c1 n2 c2 n3 c3 n4 c4 m1 d1 m2 d2 m3 d3 m4 d4 : Nat} {idA secA parA rndA idB secB parB rndB : List UInt8} (hia : BS W a1 n1 c1 idA) (hsa : BS W a2 n2 c2 secA) (hpa : BS W a3 n3 c3 parA) (hra : BS W a4 n4 c4 rndA) (hib : BS W b1 m1 d1 idB) (hsb : BS W b2 m2 d2 secB) (hpb : BS W b3 m3 d3 parB) (hrb : BS W b4 m4 d4 rndB) (u : Nat) (hu : u < 256) (hK : KT W) :
    Calls Tryd.prog 4 #[.agg #[.bool sa, .slice a1 n1 c1, .slice a2 n2 c2, .slice a3 n3 c3, .slice a4 n4 c4], .agg #[.bool sb, .slice b1 m1 d1, .slice b2 m2 d2, .slice b3 m3 d3, .slice b4 m4 d4], .int .u8 (u : Int)] W fun e W' => e = .returned (.bool true) ∧ Below W.heap.size W W' := by
  have hst := TwoZ.start W sa (.slice a1 n1 c1) (.slice a2 n2 c2) (.slice a3 n3 c3) (.slice a4 n4 c4) sb (.slice b1 m1 d1) (.slice b2 m2 d2) (.slice b3 m3 d3) (.slice b4 m4 d4)
  obtain ⟨W1, hW1⟩ : ∃ x, (W.alloc (.cells #[.bool sa, .slice a1 n1 c1, .slice a2 n2 c2, .slice a3 n3 c3, .slice a4 n4 c4] 24)).alloc (.cells #[.bool sb, .slice b1 m1 d1, .slice b2 m2 d2, .slice b3 m3 d3, .slice b4 m4 d4] 24) = x := ⟨_, rfl⟩
  obtain ⟨k, hk⟩ : ∃ k, W.heap.size = k := ⟨_, rfl⟩
  rw [hW1, hk] at hst
  have hK1 : KT W1 := hK.below hst.bel (by omega)
  have Haw := Lib.hid (awake13_any W1 hK1)
  have HZ1 := Lib.hid hst
  have HKk := Lib.hid hk
  have HK := Lib.hid hK
  have bls : ∀ (w' : World), Below k W w' → ∀ (a : Option Addr) (n c : Nat) (xs : List UInt8), BS W a n c xs → BS w' a n c xs := fun w' hb a n c xs h => RS.below h hb (by omega)
  have BLS := Lib.hid bls
  have HA := Lib.hid (And.intro hia (And.intro hsa (And.intro hpa hra)))
  have HB := Lib.hid (And.intro hib (And.intro hsb (And.intro hpb hrb)))
  clear hst hK1 hK bls hia hsa hpa hra hib hsb hpb hrb
  go_enter Tryd.func4, Tryd.ntmps4
  go_upto_region 1 with (fail)
  clear hW1 hk
  go_upto_region 3 with (go_at_call 8; refine Haw.out.mono ?_; rintro x w2 ⟨rfl, hb2⟩)
  have HZ2 := Lib.hid (HZ1.out.next hb2)
  clear hb2 Haw HZ1
  obtain ⟨V, hV⟩ : ∃ V, w2.drew = V := ⟨_, rfl⟩
  have hz : TwoZ W V k sa (.slice a1 n1 c1) (.slice a2 n2 c2) (.slice a3 n3 c3) (.slice a4 n4 c4) sb (.slice b1 m1 d1) (.slice b2 m2 d2) (.slice b3 m3 d3) (.slice b4 m4 d4) := by rw [← hV]; exact HZ2.out.next ((Below.refl _ w2).drew)
  have HZ3 := Lib.hid hz
  clear hz
  refine wp_region_held_drew (S := fun w' => w'.cell? ⟨k, 1, none⟩ = some (.slice a1 n1 c1) ∧ w'.cell? ⟨k, 2, none⟩ = some (.slice a2 n2 c2)) (by kernel_rfl) (by rw [hV]; exact ⟨HZ3.out.a.c1, HZ3.out.a.c2⟩) (fun hHeld => ?_)
  rw [hV] at hHeld ⊢
  refine wpAnyH_take (i := 0) (v := .pointer (some ⟨k, 1, none⟩)) rfl (by kernel_rfl) (by kernel_rfl) (by kernel_rfl) (fun _ _ _ h => h) (Or.inl ⟨by rfl, fun w h => by go_simp⟩) hHeld ?_
  try simp only [Act.put, List.getElem_toArray, List.getElem_cons_zero, List.setIfInBounds_toArray, List.set_cons_zero, List.set_cons_succ]
  refine wpAnyH_take (i := 1) (v := .slice a1 n1 c1) rfl (by kernel_rfl) (by kernel_rfl) (by kernel_rfl) (fun _ _ _ h => h) (Or.inl ⟨by rfl, fun w h => by have h2 := h.1; go_simp⟩) hHeld ?_
  try simp only [Act.put, List.getElem_toArray, List.getElem_cons_succ, List.getElem_cons_zero, List.setIfInBounds_toArray, List.set_cons_zero, List.set_cons_succ]
  refine wpAnyH_take (i := 2) (v := .pointer (some ⟨k, 2, none⟩)) rfl (by kernel_rfl) (by kernel_rfl) (by kernel_rfl) (fun _ _ _ h => h) (Or.inl ⟨by rfl, fun w h => by go_simp⟩) hHeld ?_
  try simp only [Act.put, List.getElem_toArray, List.getElem_cons_succ, List.getElem_cons_zero, List.setIfInBounds_toArray, List.set_cons_zero, List.set_cons_succ]
  refine wpAnyH_take (i := 3) (v := .slice a2 n2 c2) rfl (by kernel_rfl) (by kernel_rfl) (by kernel_rfl) (fun _ _ _ h => h) (Or.inl ⟨by rfl, fun w h => by have h2 := h.2; go_simp⟩) hHeld ?_
  try simp only [Act.put, List.getElem_toArray, List.getElem_cons_succ, List.getElem_cons_zero, List.setIfInBounds_toArray, List.set_cons_zero, List.set_cons_succ]
  refine wpAnyH_take (i := 4) (v := .pointer (some ⟨k + 1, 1, none⟩)) rfl (by kernel_rfl) (by kernel_rfl) (by kernel_rfl) (fun _ _ _ h => h) (Or.inl ⟨by rfl, fun w h => by go_simp⟩) hHeld ?_
  try simp only [Act.put, List.getElem_toArray, List.getElem_cons_succ, List.getElem_cons_zero, List.setIfInBounds_toArray, List.set_cons_zero, List.set_cons_succ]
  refine wpAnyH_ready (rs := [5]) (by kernel_rfl) (by simp) (AllReadyH.cons rfl (fun K hK => ?_) AllReadyH.nil)
  have u := HZ3.out.b.c1
  have f := HZ3.out.b.fr 1
  go_simp
  have hz := HZ3.out.b1 (.slice a1 n1 c1)
  obtain ⟨x0, hx0⟩ : ∃ x, V.setCell ⟨k + 1, 1, none⟩ (.slice a1 n1 c1) = x := ⟨_, rfl⟩
  rw [hx0] at hz ⊢
  refine hK.out _ _ ⟨hz.a.c1, hz.a.c2⟩ (fun hHeld => ?_)
  clear hK K u f hx0
  have HX0 := Lib.hid hz
  clear hz
  try simp only [Act.put, List.getElem_toArray, List.getElem_cons_succ, List.getElem_cons_zero, List.setIfInBounds_toArray, List.set_cons_zero, List.set_cons_succ]
  refine wpAnyH_take (i := 6) (v := .pointer (some ⟨k + 1, 2, none⟩)) rfl (by kernel_rfl) (by kernel_rfl) (by kernel_rfl) (fun _ _ _ h => h) (Or.inl ⟨by rfl, fun w h => by go_simp⟩) hHeld ?_
  try simp only [Act.put, List.getElem_toArray, List.getElem_cons_succ, List.getElem_cons_zero, List.setIfInBounds_toArray, List.set_cons_zero, List.set_cons_succ]
  refine wpAnyH_ready (rs := [7]) (by kernel_rfl) (by simp) (AllReadyH.cons rfl (fun K hK => ?_) AllReadyH.nil)
  have u := HX0.out.b.c2
  have f := HX0.out.b.fr 2
  go_simp
  have hz := HX0.out.b2 (.slice a2 n2 c2)
  obtain ⟨x1, hx1⟩ : ∃ x, x0.setCell ⟨k + 1, 2, none⟩ (.slice a2 n2 c2) = x := ⟨_, rfl⟩
  rw [hx1] at hz ⊢
  refine hK.out _ _ ⟨hz.a.c1, hz.a.c2⟩ (fun hHeld => ?_)
  clear hK K u f hx1
  have HX1 := Lib.hid hz
  clear hz
  try simp only [Act.put, List.getElem_toArray, List.getElem_cons_succ, List.getElem_cons_zero, List.setIfInBounds_toArray, List.set_cons_zero, List.set_cons_succ]
  refine wpAnyH_take (i := 8) (v := .pointer (some ⟨k, 0, none⟩)) rfl (by kernel_rfl) (by kernel_rfl) (by kernel_rfl) (fun _ _ _ h => h) (Or.inl ⟨by rfl, fun w h => by go_simp⟩) hHeld ?_
  try simp only [Act.put, List.getElem_toArray, List.getElem_cons_succ, List.getElem_cons_zero, List.setIfInBounds_toArray, List.set_cons_zero, List.set_cons_succ]
  refine wpAnyH_ready (rs := [9]) (by kernel_rfl) (by simp) (AllReadyH.cons rfl (fun K hK => ?_) AllReadyH.nil)
  have u := HX1.out.a.c0
  have f := HX1.out.a.fr 0
  go_simp
  have hz := HX1.out.a0 false
  obtain ⟨x2, hx2⟩ : ∃ x, x1.setCell ⟨k, 0, none⟩ (.bool false) = x := ⟨_, rfl⟩
  rw [hx2] at hz ⊢
  refine hK.out _ _ ⟨hz.a.c1, hz.a.c2⟩ (fun hHeld => ?_)
  clear hK K u f hx2
  have HX2 := Lib.hid hz
  clear hz
  try simp only [Act.put, List.getElem_toArray, List.getElem_cons_succ, List.getElem_cons_zero, List.setIfInBounds_toArray, List.set_cons_zero, List.set_cons_succ]
  refine wpAnyH_take (i := 10) (v := .pointer (some ⟨k + 1, 0, none⟩)) rfl (by kernel_rfl) (by kernel_rfl) (by kernel_rfl) (fun _ _ _ h => h) (Or.inl ⟨by rfl, fun w h => by go_simp⟩) hHeld ?_
  try simp only [Act.put, List.getElem_toArray, List.getElem_cons_succ, List.getElem_cons_zero, List.setIfInBounds_toArray, List.set_cons_zero, List.set_cons_succ]
  refine wpAnyH_ready (rs := [11]) (by kernel_rfl) (by simp) (AllReadyH.cons rfl (fun K hK => ?_) AllReadyH.nil)
  have u := HX2.out.b.c0
  have f := HX2.out.b.fr 0
  go_simp
  have hz := HX2.out.b0 true
  obtain ⟨x3, hx3⟩ : ∃ x, x2.setCell ⟨k + 1, 0, none⟩ (.bool true) = x := ⟨_, rfl⟩
  rw [hx3] at hz ⊢
  refine hK.out _ _ ⟨hz.a.c1, hz.a.c2⟩ (fun hHeld => ?_)
  clear hK K u f hx3
  have HX3 := Lib.hid hz
  clear hz
  try simp only [Act.put, List.getElem_toArray, List.getElem_cons_succ, List.getElem_cons_zero, List.setIfInBounds_toArray, List.set_cons_zero, List.set_cons_succ]
  refine wpAnyH_done (by kernel_rfl) ?_ _
  try simp only [Act.put, List.getElem_toArray, List.getElem_cons_succ, List.getElem_cons_zero]
  clear hHeld HZ2 HZ3 hV
  have HZ3 := Lib.hid HX3.out
  clear HX3 HX0 HX1 HX2
  obtain ⟨w3, hw3⟩ : ∃ x, x3 = x := ⟨_, rfl⟩
  rw [hw3] at HZ3 ⊢
  have hsd := side_any w3 false (BLS.out w3 HZ3.out.bel _ _ _ _ HA.out.1) (BLS.out w3 HZ3.out.bel _ _ _ _ HA.out.2.1) (BLS.out w3 HZ3.out.bel _ _ _ _ HA.out.2.2.1) (BLS.out w3 HZ3.out.bel _ _ _ _ HA.out.2.2.2)
  have Hsd := Lib.hid hsd
  have Hra := Lib.hid HZ3.out.a.rng
  have hk3 := HZ3.out.lt
  clear hsd
  go_upto_region 5 with (first
    | (refine wpList_load_mid rfl _ _ rfl _ _ rfl _ _ Hra.out Tryd.underlying24 rfl iSide ?_)
    | (go_at_call 9; refine Hsd.out.mono ?_; rintro x w4 ⟨N4, i1, s1, p1, r1, i2, s2, p2, rfl, hq4⟩)
    | (refine L_storeRow rfl 28 _ _ rfl rfl rfl (heap_alloc_at w4 _ rfl) iConf rfl (cfc_len (pad32_len _)) (cfc_one _ i2 s2 p2 _) ?_; intro w5 hc5 hg5; have hz5 := ((HZ3.out.next (hq4.bel.mono (Nat.le_refl _))).grow (World.grownBy_alloc w4 (.cells #[.bool false, .slice none 0 0, .slice none 0 0, .slice none 0 0, .int .u8 0, .int .u8 0, .int .u8 0, .int .u8 0, .int .u8 0, .int .u8 0, .int .u8 0, .int .u8 0, .int .u8 0, .int .u8 0, .int .u8 0, .int .u8 0, .int .u8 0, .int .u8 0, .int .u8 0, .int .u8 0, .int .u8 0, .int .u8 0, .int .u8 0, .int .u8 0, .int .u8 0, .int .u8 0, .int .u8 0, .int .u8 0, .int .u8 0, .int .u8 0, .int .u8 0, .int .u8 0, .int .u8 0, .int .u8 0, .int .u8 0, .int .u8 0] 28) none) (fun j hj => by cases hj)).grow hg5 (fun j hj => by cases hj; have := hq4.bel.size; omega); have za5 := hz5.a)
    | (refine L_storeRow (old := [.bool false, .slice a1 n1 c1, .slice a2 n2 c2, .slice a3 n3 c3, .slice a4 n4 c4]) rfl 24 _ _ rfl rfl rfl za5 iSide rfl rfl (szcells false i1 s1 p1 r1) ?_; intro w6 hz6 hg6))
  have hk4 : k + 1 < w4.heap.size := by have := hq4.bel.size; omega
  have g45 : w4.grownBy w5 none := grown_newq (World.grownBy_alloc w4 (.cells #[.bool false, .slice none 0 0, .slice none 0 0, .slice none 0 0, .int .u8 0, .int .u8 0, .int .u8 0, .int .u8 0, .int .u8 0, .int .u8 0, .int .u8 0, .int .u8 0, .int .u8 0, .int .u8 0, .int .u8 0, .int .u8 0, .int .u8 0, .int .u8 0, .int .u8 0, .int .u8 0, .int .u8 0, .int .u8 0, .int .u8 0, .int .u8 0, .int .u8 0, .int .u8 0, .int .u8 0, .int .u8 0, .int .u8 0, .int .u8 0, .int .u8 0, .int .u8 0, .int .u8 0, .int .u8 0, .int .u8 0, .int .u8 0] 28) none) hg5 (Nat.le_refl _)
  have HZ6 := Lib.hid (hz5.seta hg6 hz6)
  have g46 : w4.grownBy w6 (some k) := grown_trans (grown_mono g45) hg6
  obtain ⟨qa, hqa⟩ : ∃ x, w4.heap.size = x := ⟨_, rfl⟩
  have hqk : k + 1 < qa := by omega
  have hc6 : CZ w6 qa false i2.v s2.v p2.v (pad32 rndA) := by
    have : CZ w5 qa false i2.v s2.v p2.v (pad32 rndA) := by rw [← hqa]; exact hc5
    exact this.keep (hg6.block _ this.lt (fun he => by injection he with he; omega))
  have nca := hq4.nc (k := k) (by omega)
  have HC6 := Lib.hid hc6
  have HSA := Lib.hid (hq4.c.grow g46 nca.1.1 nca.1.2.1 nca.1.2.2)
  have HRA := Lib.hid (hq4.r.grow g46 nca.2.1 nca.2.2.1 nca.2.2.2)
  have Hxa : Hid ((∀ ad, i2.a = some ad → k + 1 < ad.block) ∧ (∀ ad, s2.a = some ad → k + 1 < ad.block) ∧ (∀ ad, p2.a = some ad → k + 1 < ad.block) ∧ (∀ ad, i1.a = some ad → k + 1 < ad.block) ∧ (∀ ad, s1.a = some ad → k + 1 < ad.block) ∧ (∀ ad, p1.a = some ad → k + 1 < ad.block)) := Lib.hid
    ⟨fun ad ha => by have := (hq4.hi2.base_le ha).1; have := hq4.low; omega, fun ad ha => by have := (hq4.hs2.base_le ha).1; have := hq4.low; omega, fun ad ha => by have := (hq4.hp2.base_le ha).1; have := hq4.low; omega, fun ad ha => by have := (hq4.hi.base_le ha).1; omega, fun ad ha => by have := (hq4.hs.base_le ha).1; omega, fun ad ha => by have := (hq4.hp.base_le ha).1; omega⟩
  have HRQ := Lib.hid (show BS w6 r1.a r1.n r1.c (pad32 rndA) from RS.grown hq4.hr.rs g46 (fun ad ha he => by have := (hq4.hr.base_le ha).1; injection he with he; omega))
  rw [hqa]
  clear hg5 hc5 hz5 za5 hg6 hz6 g45 g46 hc6 nca hq4 hqa Hsd Hra HZ3 hk3 hk4
  have hsd := side_any w6 true (BLS.out w6 HZ6.out.bel _ _ _ _ HA.out.1) (BLS.out w6 HZ6.out.bel _ _ _ _ HA.out.2.1) (BLS.out w6 HZ6.out.bel _ _ _ _ HB.out.2.2.1) (BLS.out w6 HZ6.out.bel _ _ _ _ HB.out.2.2.2)
  have Hsd := Lib.hid hsd
  have Hrb := Lib.hid HZ6.out.b.rng
  have hk6 := HZ6.out.lt
  clear hsd
  go_upto_region 6 with (first
    | (refine wpList_load_mid rfl _ _ rfl _ _ rfl _ _ Hrb.out Tryd.underlying24 rfl iSide ?_)
    | (go_at_call 9; refine Hsd.out.mono ?_; rintro x w7 ⟨N7, j1, t1, q1, e1, j2, t2, q2, rfl, hq7⟩)
    | (refine L_storeRow rfl 28 _ _ rfl rfl rfl (heap_alloc_at w7 _ rfl) iConf rfl (cfc_len (pad32_len _)) (cfc_one _ j2 t2 q2 _) ?_; intro w8 hc8 hg8; have hz8 := ((HZ6.out.next (hq7.bel.mono (Nat.le_refl _))).grow (World.grownBy_alloc w7 (.cells #[.bool false, .slice none 0 0, .slice none 0 0, .slice none 0 0, .int .u8 0, .int .u8 0, .int .u8 0, .int .u8 0, .int .u8 0, .int .u8 0, .int .u8 0, .int .u8 0, .int .u8 0, .int .u8 0, .int .u8 0, .int .u8 0, .int .u8 0, .int .u8 0, .int .u8 0, .int .u8 0, .int .u8 0, .int .u8 0, .int .u8 0, .int .u8 0, .int .u8 0, .int .u8 0, .int .u8 0, .int .u8 0, .int .u8 0, .int .u8 0, .int .u8 0, .int .u8 0, .int .u8 0, .int .u8 0, .int .u8 0, .int .u8 0] 28) none) (fun j hj => by cases hj)).grow hg8 (fun j hj => by cases hj; have := hq7.bel.size; omega); have zb8 := hz8.b)
    | (refine L_storeRow (old := [.bool true, .slice a1 n1 c1, .slice a2 n2 c2, .slice b3 m3 d3, .slice b4 m4 d4]) rfl 24 _ _ rfl rfl rfl zb8 iSide rfl rfl (szcells true j1 t1 q1 e1) ?_; intro w9 hz9 hg9))
  have hk7 : k + 1 < w7.heap.size := by have := hq7.bel.size; omega
  have g78 : w7.grownBy w8 none := grown_newq (World.grownBy_alloc w7 (.cells #[.bool false, .slice none 0 0, .slice none 0 0, .slice none 0 0, .int .u8 0, .int .u8 0, .int .u8 0, .int .u8 0, .int .u8 0, .int .u8 0, .int .u8 0, .int .u8 0, .int .u8 0, .int .u8 0, .int .u8 0, .int .u8 0, .int .u8 0, .int .u8 0, .int .u8 0, .int .u8 0, .int .u8 0, .int .u8 0, .int .u8 0, .int .u8 0, .int .u8 0, .int .u8 0, .int .u8 0, .int .u8 0, .int .u8 0, .int .u8 0, .int .u8 0, .int .u8 0, .int .u8 0, .int .u8 0, .int .u8 0, .int .u8 0] 28) none) hg8 (Nat.le_refl _)
  have HZ9 := Lib.hid (hz8.setb hg9 hz9)
  have g79 : w7.grownBy w9 (some (k + 1)) := grown_trans (grown_mono g78) hg9
  obtain ⟨qb, hqb⟩ : ∃ x, w7.heap.size = x := ⟨_, rfl⟩
  have hqk2 : k + 1 < qb := by omega
  have hc9 : CZ w9 qb true j2.v t2.v q2.v (pad32 rndB) := by
    have : CZ w8 qb true j2.v t2.v q2.v (pad32 rndB) := by rw [← hqb]; exact hc8
    exact this.keep (hg9.block _ this.lt (fun he => by injection he with he; omega))
  have hca9 : CZ w9 qa false i2.v s2.v p2.v (pad32 rndA) := by
    have : CZ w7 qa false i2.v s2.v p2.v (pad32 rndA) := HC6.out.bel hq7.bel
    exact this.keep (g79.block _ this.lt (fun he => by injection he with he; omega))
  have ncb := hq7.nc (k := k + 1) (by omega)
  have HC9 := Lib.hid (And.intro hca9 hc9)
  have HSB := Lib.hid (hq7.c.grow g79 ncb.1.1 ncb.1.2.1 ncb.1.2.2)
  have HRB := Lib.hid (hq7.r.grow g79 ncb.2.1 ncb.2.2.1 ncb.2.2.2)
  have ne1 : ∀ {a : Option Addr}, (∀ ad, a = some ad → k + 1 < ad.block) → ∀ ad, a = some ad → some ad.block ≠ some (k + 1) := fun h ad ha he => by have := h ad ha; injection he with he; omega
  have HSA9 := Lib.hid ((HSA.out.bel hq7.bel).grow g79 (ne1 Hxa.out.1) (ne1 Hxa.out.2.1) (ne1 Hxa.out.2.2.1))
  have HRA9 := Lib.hid ((HRA.out.bel hq7.bel).grow g79 (ne1 Hxa.out.2.2.2.1) (ne1 Hxa.out.2.2.2.2.1) (ne1 Hxa.out.2.2.2.2.2))
  rw [hqb]
  clear hg8 hc8 hz8 zb8 hg9 hz9 g78 g79 hc9 hca9 ncb hq7 hqb Hsd Hrb HZ6 hk6 hk7 ne1 HSA HRA HC6
  -- both machines
  obtain ⟨X, hX⟩ : ∃ X, w9.drew = X := ⟨_, rfl⟩
  have bX : Below w9.heap.size w9 X := by rw [← hX]; exact (Below.refl _ w9).drew
  have hKX : KT X := (HK.out.below (HZ9.out.bel.trans (bX.mono (Nat.le_of_lt HZ9.out.a.lt))) (by rw [HKk.out]; exact Nat.le_refl _))
  have HZX := Lib.hid (HZ9.out.next bX)
  have HCX := Lib.hid (And.intro (HC9.out.1.bel bX) (HC9.out.2.bel bX))
  have HSAX := Lib.hid (HSA9.out.bel bX)
  have HSBX := Lib.hid (HSB.out.bel bX)
  have HRAX := Lib.hid (HRA9.out.bel bX)
  have HRBX := Lib.hid (HRB.out.bel bX)
  have HKX := Lib.hid hKX
  have lqa := HCX.out.1.lt
  have lqb := HCX.out.2.lt
  have hiA : (Tryd.prog.info? 28).map (·.size) = some (cfc false i2.v s2.v p2.v (pad32 rndA)).length := cfc_sz (pad32_len _)
  have hiB : (Tryd.prog.info? 28).map (·.size) = some (cfc true j2.v t2.v q2.v (pad32 rndB)).length := cfc_sz (pad32_len _)
  have huC := Tryd.underlying28
  clear bX hKX HC9 HZ9 HSA9 HSB HRA9 HRB
  refine wp_region_held_drew (S := fun w' => w'.rangeAt qa 0 (cfc false i2.v s2.v p2.v (pad32 rndA)) ∧ w'.rangeAt qb 0 (cfc true j2.v t2.v q2.v (pad32 rndB))) (by kernel_rfl) (by rw [hX]; exact ⟨HCX.out.1.rng, HCX.out.2.rng⟩) (fun hHeld => ?_)
  rw [hX] at hHeld ⊢
  clear hX
  refine wpAnyH_take (i := 0) rfl (by kernel_rfl) (by kernel_rfl) (by kernel_rfl) (fun _ _ _ h => h) (yieldsIf_load_mid (by rfl) _ _ rfl _ _ rfl _ _ (fun w h => h.1) huC rfl hiA) hHeld ?_
  try simp only [Act.put, List.getElem_toArray, List.getElem_cons_zero, List.setIfInBounds_toArray, List.set_cons_zero, List.set_cons_succ]
  refine wpAnyH_take (i := 2) rfl (by kernel_rfl) (by kernel_rfl) (by kernel_rfl) (fun _ _ _ h => h) (yieldsIf_load_mid (by rfl) _ _ rfl _ _ rfl _ _ (fun w h => h.2) huC rfl hiB) hHeld ?_
  try simp only [Act.put, List.getElem_toArray, List.getElem_cons_succ, List.getElem_cons_zero, List.setIfInBounds_toArray, List.set_cons_zero, List.set_cons_succ]
  refine wpAnyH_ready (rs := [1]) (by kernel_rfl) (by simp) (AllReadyH.cons rfl (fun K hK => ?_) AllReadyH.nil)
  go_simp
  go_at_call 10
  have len1 := BS.len HSAX.out.bi
  have len2 := BS.len HSAX.out.bs
  have len3 := BS.len HSAX.out.bp
  rw [List.length_take] at len1 len2 len3
  refine (gnew_any X false HSAX.out.bi HSAX.out.bs HSAX.out.bp (pad32_len rndA) (by omega) (by omega) (by omega) HKX.out).mono ?_
  rintro x y1 ⟨ga, ra, Aa, rfl, hma, hby, hza⟩
  clear len1 len2 len3
  rw [List.take_take, List.take_take] at hma
  have HMA := Lib.hid hma
  have HBY := Lib.hid hby
  have Hza := Lib.hid hza
  clear hma hby hza
  refine hK.out _ _ ⟨rng_bel HCX.out.1.rng HBY.out lqa, rng_bel HCX.out.2.rng HBY.out lqb⟩ (fun hHeld => ?_)
  clear hK K
  try simp only [Act.put, List.getElem_toArray, List.getElem_cons_succ, List.getElem_cons_zero, List.setIfInBounds_toArray, List.set_cons_zero, List.set_cons_succ]
  refine wpAnyH_ready (rs := [3]) (by kernel_rfl) (by simp) (AllReadyH.cons rfl (fun K hK => ?_) AllReadyH.nil)
  go_simp
  go_at_call 10
  have len1 := BS.len HSBX.out.bi
  have len2 := BS.len HSBX.out.bs
  have len3 := BS.len HSBX.out.bp
  rw [List.length_take] at len1 len2 len3
  have hky : KT y1 := HKX.out.below HBY.out (Nat.le_refl _)
  refine (gnew_any y1 true (HSBX.out.bel HBY.out).bi (HSBX.out.bel HBY.out).bs (HSBX.out.bel HBY.out).bp (pad32_len rndB) (by omega) (by omega) (by omega) hky).mono ?_
  rintro x y2 ⟨gb, rb, Ab, rfl, hmb, hby2, hzb⟩
  clear len1 len2 len3
  rw [List.take_take, List.take_take] at hmb
  have hXY : Below X.heap.size X y2 := btr HBY.out hby2
  have hT : TM y2 ra rb ga gb (newM false (pad32 rndA) (idA.take 64) (secA.take 80) (parA.take 512)) (newM true (pad32 rndB) (idA.take 64) (secA.take 80) (parB.take 512)) Aa Ab := by
    refine ⟨HMA.out.below hby2, hmb, fun j => ?_, Hza.out _ HKX.out.lt, hzb _ hky.lt, hky.below hby2 (Nat.le_refl _)⟩
    by_cases hj : j < y1.heap.size
    · exact .inr (hzb j hj)
    · exact .inl (HMA.out.gp.top j (by omega))
  have zra : ∀ j, j < X.heap.size → ra j = 0 := Hza.out
  have zrb : ∀ j, j < X.heap.size → rb j = 0 := fun j hj => hzb j (by have := HBY.out.size; omega)
  have HT := Lib.hid hT
  have Hzz := Lib.hid (And.intro zra zrb)
  have HXY := Lib.hid hXY
  refine hK.out _ _ ⟨rng_bel HCX.out.1.rng hXY lqa, rng_bel HCX.out.2.rng hXY lqb⟩ (fun hHeld => ?_)
  clear hK K hmb hby2 hzb hky hXY hT zra zrb HMA HBY Hza
  try simp only [Act.put, List.getElem_toArray, List.getElem_cons_succ, List.getElem_cons_zero, List.setIfInBounds_toArray, List.set_cons_zero, List.set_cons_succ]
  refine wpAnyH_take (i := 4) (v := .pointer (some ⟨ga, 0, none⟩)) rfl (by kernel_rfl) (by kernel_rfl) (by kernel_rfl) (fun _ _ _ h => h) (Or.inl ⟨by rfl, fun w h => by go_simp⟩) hHeld ?_
  try simp only [Act.put, List.getElem_toArray, List.getElem_cons_succ, List.getElem_cons_zero, List.setIfInBounds_toArray, List.set_cons_zero, List.set_cons_succ]
  refine wpAnyH_take (i := 5) (v := .pointer (some ⟨gb, 0, none⟩)) rfl (by kernel_rfl) (by kernel_rfl) (by kernel_rfl) (fun _ _ _ h => h) (Or.inl ⟨by rfl, fun w h => by go_simp⟩) hHeld ?_
  try simp only [Act.put, List.getElem_toArray, List.getElem_cons_succ, List.getElem_cons_zero, List.setIfInBounds_toArray, List.set_cons_zero, List.set_cons_succ]
  refine wpAnyH_done (by kernel_rfl) ?_ _
  try simp only [Act.put, List.getElem_toArray, List.getElem_cons_succ, List.getElem_cons_zero]
  clear hHeld huC hiA hiB HCX HSAX HSBX
  obtain ⟨idl, hidl⟩ : ∃ x, idA.take 64 = x := ⟨_, rfl⟩
  obtain ⟨sel, hsel⟩ : ∃ x, secA.take 80 = x := ⟨_, rfl⟩
  obtain ⟨pA, hpA⟩ : ∃ x, parA.take 512 = x := ⟨_, rfl⟩
  obtain ⟨pB, hpB⟩ : ∃ x, parB.take 512 = x := ⟨_, rfl⟩
  have lid : idl.length ≤ 64 := by rw [← hidl, List.length_take]; omega
  have lse : sel.length ≤ 80 := by rw [← hsel, List.length_take]; omega
  have lpA : pA.length ≤ 512 := by rw [← hpA, List.length_take]; omega
  have lpB : pB.length ≤ 512 := by rw [← hpB, List.length_take]; omega
  have hT : TM y2 ra rb ga gb (newM false (pad32 rndA) idl sel pA) (newM true (pad32 rndB) idl sel pB) Aa Ab := by rw [← hidl, ← hsel, ← hpA, ← hpB]; exact HT.out
  obtain ⟨rA, hrA⟩ : ∃ x, pad32 rndA = x := ⟨_, rfl⟩
  obtain ⟨rB, hrB⟩ : ∃ x, pad32 rndB = x := ⟨_, rfl⟩
  have lrA : rA.length = 32 := by rw [← hrA]; exact pad32_len _
  have lrB : rB.length = 32 := by rw [← hrB]; exact pad32_len _
  rw [hrA, hrB] at hT
  have HpA := Lib.hid hpA
  have HpB := Lib.hid hpB
  clear hidl hsel hpA hpB hrA hrB HT
  obtain ⟨part, hpart⟩ : ∃ x, 1 + u = x := ⟨_, rfl⟩
  have hwr : IntKind.i64.wrap (1 + (u : Int)) = (part : Int) := by rw [show (1 : Int) + (u : Int) = (part : Int) by omega]; exact IntWalk.i64_in _ (by omega)
  have hmt := meet_any y2 hT part (by omega) (by omega) (new_bn false lrA lid lpA (by omega)) (new_bn true lrB lid lpB (by omega))
  rw [meet_all part (by omega) lrA lrB lid lpA lpB] at hmt
  have hmt : Calls Tryd.prog 14 #[.pointer (some ⟨ga, 0, none⟩), .pointer (some ⟨gb, 0, none⟩), .int .i64 (part : Int)] y2 fun e w' => e = .returned (.int .u64 0) ∧ ∃ ra' rb' Aa' Ab', Kp2 y2 w' ra rb ra' rb' ∧ TM w' ra' rb' ga gb (cl4 rA rB idl sel pA pB) (sv3 rA rB idl sel pA pB) Aa' Ab' :=
    hmt.mono fun e w' h => by
      obtain ⟨h1, ra', rb', h2, h3⟩ := h
      obtain ⟨Aa', Ab', h4⟩ := h3 rfl
      exact ⟨h1, ra', rb', Aa', Ab', h2, h4⟩
  have Hmt := Lib.hid hmt
  have HPt := Lib.hid hpart
  clear hmt hpart hT
  go_upto_region 9 with (first
    | (go_at_call 14; (with_reducible refine Hmt.out.mono ?_); rintro x y3 ⟨rfl, ra3, rb3, Aa3, Ab3, kp3, t3⟩; have hd1 : Calls Tryd.prog 13 #[.pointer (some ⟨ga, 0, none⟩)] y3 (fun e w' => e = .returned (.bool true) ∧ w' = y3) := gdone_any y3 t3.a; have hd2 : Calls Tryd.prog 13 #[.pointer (some ⟨gb, 0, none⟩)] y3 (fun e w' => e = .returned (.bool true) ∧ w' = y3) := gdone_any y3 t3.b)
    | (go_at_call 13; (with_reducible refine hd1.mono ?_); rintro x y4 ⟨rfl, rfl⟩)
    | (go_at_call 13; (with_reducible refine hd2.mono ?_); rintro x y5 ⟨rfl, rfl⟩))
  have bX := kp3.below HXY.out HXY.out.size Hzz.out.1 Hzz.out.2
  have HT3 := Lib.hid t3
  have HBX := Lib.hid bX
  have l1 : (hK1 rA rB idl sel pA).c.length = 32 := labF_len _ _ _
  have l2 : (hK1 rA rB idl sel pA).s.length = 32 := labF_len _ _ _
  have l3 : (hK2 rA rB idl sel pA pB).c.length = 32 := labF_len _ _ _
  have l4 : (hK2 rA rB idl sel pA pB).s.length = 32 := labF_len _ _ _
  clear kp3 t3 hd1 hd2 bX Hmt hwr Hzz HXY
  obtain ⟨Y, hY⟩ : ∃ Y, y5 = Y := ⟨_, rfl⟩
  rw [hY] at HT3 HBX ⊢
  clear hY
  have HS := Lib.hid (show ∃ j : Nat, j ≤ 3 ∧ Value.int .i64 (0 : Int) = .int .i64 (j : Int) ∧ Below Y.heap.size Y Y from ⟨0, by omega, rfl, Below.refl _ _⟩)
  go_wp2
  go_loopw [63] (fun s63 wr => ∃ j : Nat, j ≤ 3 ∧ s63 = .int .i64 (j : Int) ∧ Below Y.heap.size Y wr) (fun s63 _ => match s63 with | .int _ x => (3 - x).toNat | _ => 0)
  case atStart => exact HS.out
  case round =>
    clear HS
    obtain ⟨j, hj, rfl, hb⟩ := hrel
    have HBr := Lib.hid hb
    have HTr := Lib.hid (HT3.out.bel hb).1
    clear hb
    by_cases h3 : j = 3
    · subst h3
      obtain ⟨lB, hlB⟩ : ∃ x, pB.length = x := ⟨_, rfl⟩
      obtain ⟨lA, hlA⟩ : ∃ x, pA.length = x := ⟨_, rfl⟩
      have bXr := HBX.out.trans (HBr.out.mono HBX.out.size)
      have hp1 := gpeer_any wr HTr.out.a (by show pB.length ≤ _; omega)
      have hp1 : Calls Tryd.prog 16 #[.pointer (some ⟨ga, 0, none⟩)] wr fun e w' => ∃ a' c', e = .returned (.tuple #[.slice a' pB.length c', .bool true]) ∧ OW w' wr.heap.size 5 1 a' pB.length c' (pB.map B) ∧ Below wr.heap.size wr w' := hp1
      rw [hlB] at hp1
      have Hp1 := Lib.hid hp1
      have hp2 : ∀ w', Below wr.heap.size wr w' → Calls Tryd.prog 16 #[.pointer (some ⟨gb, 0, none⟩)] w' fun e w'' => ∃ a' c', e = .returned (.tuple #[.slice a' lA c', .bool true]) ∧ OW w'' w'.heap.size 5 1 a' lA c' (pA.map B) ∧ Below w'.heap.size w' w'' := fun w' hb => by
        have h := gpeer_any w' (HTr.out.bel hb).1.b (by show pA.length ≤ _; omega)
        rw [← hlA]; exact h
      have Hp2 := Lib.hid hp2
      have hcB : ∀ w', Below X.heap.size X w' → Calls Tryd.prog 18 #[.slice q1.a q1.n q1.c, .int .i64 512] w' fun e w'' => ∃ a' c', e = .returned (.slice a' lB c') ∧ OW w'' w'.heap.size 5 1 a' lB c' (pB.map B) ∧ Below w'.heap.size w' w'' := fun w' hb => by
        have h := cutx_any w' (HRBX.out.bel hb).bp 512 (by omega)
        rw [List.take_take, show min 512 600 = 512 from rfl, HpB.out, hlB] at h
        exact h
      have HcB := Lib.hid hcB
      have hcA : ∀ w', Below X.heap.size X w' → Calls Tryd.prog 18 #[.slice p1.a p1.n p1.c, .int .i64 512] w' fun e w'' => ∃ a' c', e = .returned (.slice a' lA c') ∧ OW w'' w'.heap.size 5 1 a' lA c' (pA.map B) ∧ Below w'.heap.size w' w'' := fun w' hb => by
        have h := cutx_any w' (HRAX.out.bel hb).bp 512 (by omega)
        rw [List.take_take, show min 512 600 = 512 from rfl, HpA.out, hlA] at h
        exact h
      have HcA := Lib.hid hcA
      have HXr := Lib.hid bXr
      have hsq := beq_self_eq_true pB
      have hsq2 := beq_self_eq_true pA
      clear hp1 hp2 hcB hcA bXr hlA hlB
      go_upto_region 18 with (go_at_call 16; refine Hp1.out.mono ?_; rintro x v1 ⟨f1, g1, rfl, o1, bb1⟩)
      have Ho1 := Lib.hid o1
      have Hb1 := Lib.hid bb1
      have hp3 := Hp2.out v1 bb1
      have Hp3 := Lib.hid hp3
      clear o1 bb1 hp3
      go_upto_region 19 with (go_at_call 16; refine Hp3.out.mono ?_; rintro x v2 ⟨f2, g2, rfl, o2, bb2⟩)
      have bX2 := HXr.out.trans ((btr Hb1.out bb2).mono HXr.out.size)
      have u3 : v2.cell? ⟨k + 1, 3, none⟩ = some (.slice q1.a q1.n q1.c) := (HZX.out.next bX2).b.c3
      have Hc3 := Lib.hid (HcB.out v2 bX2)
      have HO1 := Lib.hid (Ho1.out.below bb2 (Nat.le_refl _))
      have HO2 := Lib.hid o2
      have HbX2 := Lib.hid bX2
      clear o2 bb2 bX2
      go_wp2_with (first
        | (go_at_call 18; (with_reducible refine Hc3.out.mono ?_); rintro x v3 ⟨f3, g3, rfl, o3, bb3⟩; have hsm := same_any v3 (RS.below HO1.out.rs bb3 (Nat.le_refl _)) o3.rs; rw [hsq] at hsm; have bX3 := HbX2.out.trans (bb3.mono HbX2.out.size); have u4 : v3.cell? ⟨k, 3, none⟩ = some (.slice p1.a p1.n p1.c) := (HZX.out.next bX3).a.c3; have hca := HcA.out v3 bX3)
        | (go_at_call 17; (with_reducible refine hsm.mono ?_); rintro x v4 ⟨rfl, rfl⟩)
        | (go_at_call 18; (with_reducible refine hca.mono ?_); rintro x v5 ⟨f5, g5, rfl, o5, bb5⟩; have hsm2 := same_any v5 (RS.below (RS.below HO2.out.rs bb3 (Nat.le_refl _)) bb5 (Nat.le_refl _)) o5.rs; rw [hsq2] at hsm2; have bX5 := bX3.trans (bb5.mono bX3.size))
        | (go_at_call 17; (with_reducible refine hsm2.mono ?_); rintro x v6 ⟨rfl, rfl⟩))
      go_ret
      refine ⟨rfl, ?_⟩
      rw [HKk.out]
      exact HZX.out.bel.trans (bX5.mono (Nat.le_of_lt HZX.out.a.lt))
    · rcases (show j = 0 ∨ j = 1 ∨ j = 2 by omega) with rfl | rfl | rfl
      · have hs1 : Calls Tryd.prog 15 #[.pointer (some ⟨ga, 0, none⟩), .int .i64 0] wr fun e w' => e = .returned (.tuple #[.agg (z32.map B).toArray, .agg (z32.map B).toArray, .bool false]) ∧ Below wr.heap.size wr w' := gsec_0 wr HTr.out.a
        obtain ⟨C, hC⟩ : ∃ C, z32 = C := ⟨_, rfl⟩
        have lC : C.length = 32 := by rw [← hC]; exact z32_len
        have lD := lC
        rw [hC] at hs1
        have HCD := Lib.hid (And.intro hC hC)
        have Hs1 := Lib.hid hs1
        clear hs1 hC
        go_upto_region 13 with (first
          | (go_at_call 15; refine Hs1.out.mono ?_; rintro x v1 ⟨rfl, bb1⟩)
          | (refine L_store32 rfl _ _ rfl rfl rfl ((AB_zeros v1 rfl).al (.cells #[.int .u8 0, .int .u8 0, .int .u8 0, .int .u8 0, .int .u8 0, .int .u8 0, .int .u8 0, .int .u8 0, .int .u8 0, .int .u8 0, .int .u8 0, .int .u8 0, .int .u8 0, .int .u8 0, .int .u8 0, .int .u8 0, .int .u8 0, .int .u8 0, .int .u8 0, .int .u8 0, .int .u8 0, .int .u8 0, .int .u8 0, .int .u8 0, .int .u8 0, .int .u8 0, .int .u8 0, .int .u8 0, .int .u8 0, .int .u8 0, .int .u8 0, .int .u8 0] 26)) (by simp) lC ?_; intro v2 hA2 hg2; have hB2 := ((AB_zeros (v1.alloc (.cells #[.int .u8 0, .int .u8 0, .int .u8 0, .int .u8 0, .int .u8 0, .int .u8 0, .int .u8 0, .int .u8 0, .int .u8 0, .int .u8 0, .int .u8 0, .int .u8 0, .int .u8 0, .int .u8 0, .int .u8 0, .int .u8 0, .int .u8 0, .int .u8 0, .int .u8 0, .int .u8 0, .int .u8 0, .int .u8 0, .int .u8 0, .int .u8 0, .int .u8 0, .int .u8 0, .int .u8 0, .int .u8 0, .int .u8 0, .int .u8 0, .int .u8 0, .int .u8 0] 26)) (g := v1.heap.size + 1) (by simp))).grown hg2 (by simp))
          | (refine L_store32 rfl _ _ rfl rfl rfl hB2 (by simp) lD ?_; intro v3 hB3 hg3; have hA3 := hA2.grown hg3 (by simp)))
        have b3 : Below wr.heap.size wr v3 := ((((bb1.alloc bb1.size (.cells #[.int .u8 0, .int .u8 0, .int .u8 0, .int .u8 0, .int .u8 0, .int .u8 0, .int .u8 0, .int .u8 0, .int .u8 0, .int .u8 0, .int .u8 0, .int .u8 0, .int .u8 0, .int .u8 0, .int .u8 0, .int .u8 0, .int .u8 0, .int .u8 0, .int .u8 0, .int .u8 0, .int .u8 0, .int .u8 0, .int .u8 0, .int .u8 0, .int .u8 0, .int .u8 0, .int .u8 0, .int .u8 0, .int .u8 0, .int .u8 0, .int .u8 0, .int .u8 0] 26)).alloc (by have := bb1.size; simp; omega) (.cells #[.int .u8 0, .int .u8 0, .int .u8 0, .int .u8 0, .int .u8 0, .int .u8 0, .int .u8 0, .int .u8 0, .int .u8 0, .int .u8 0, .int .u8 0, .int .u8 0, .int .u8 0, .int .u8 0, .int .u8 0, .int .u8 0, .int .u8 0, .int .u8 0, .int .u8 0, .int .u8 0, .int .u8 0, .int .u8 0, .int .u8 0, .int .u8 0, .int .u8 0, .int .u8 0, .int .u8 0, .int .u8 0, .int .u8 0, .int .u8 0, .int .u8 0, .int .u8 0] 26)).grown hg2 (by have := bb1.size; simp; omega) (fun k hk => by cases hk; exact bb1.size)).grown hg3 (by have := bb1.size; have := hg2.size; simp at this; omega) (fun k hk => by cases hk; have := bb1.size; omega))
        obtain ⟨gC, hgC⟩ : ∃ x, v1.heap.size = x := ⟨_, rfl⟩
        rw [hgC] at hA3 hB3 ⊢
        have t3 := (HTr.out.bel b3).1
        have HA3 := Lib.hid hA3
        have HB3 := Lib.hid hB3
        have hs2 : Calls Tryd.prog 15 #[.pointer (some ⟨gb, 0, none⟩), .int .i64 0] v3 fun e w' => e = .returned (.tuple #[.agg (z32.map B).toArray, .agg (z32.map B).toArray, .bool false]) ∧ Below v3.heap.size v3 w' := gsec_0 v3 t3.b
        rw [HCD.out.1] at hs2
        have Hs2 := Lib.hid hs2
        have Hb3 := Lib.hid b3
        clear hA2 hB2 hg2 hA3 hB3 hg3 b3 t3 hs2 bb1 hgC Hs1
        go_upto_region 14 with (first
          | (go_at_call 15; refine Hs2.out.mono ?_; rintro x v4 ⟨rfl, bb4⟩)
          | (refine L_store32 rfl _ _ rfl rfl rfl ((AB_zeros v4 rfl).al (.cells #[.int .u8 0, .int .u8 0, .int .u8 0, .int .u8 0, .int .u8 0, .int .u8 0, .int .u8 0, .int .u8 0, .int .u8 0, .int .u8 0, .int .u8 0, .int .u8 0, .int .u8 0, .int .u8 0, .int .u8 0, .int .u8 0, .int .u8 0, .int .u8 0, .int .u8 0, .int .u8 0, .int .u8 0, .int .u8 0, .int .u8 0, .int .u8 0, .int .u8 0, .int .u8 0, .int .u8 0, .int .u8 0, .int .u8 0, .int .u8 0, .int .u8 0, .int .u8 0] 26)) (by simp) lC ?_; intro v5 hA5 hg5; have hB5 := ((AB_zeros (v4.alloc (.cells #[.int .u8 0, .int .u8 0, .int .u8 0, .int .u8 0, .int .u8 0, .int .u8 0, .int .u8 0, .int .u8 0, .int .u8 0, .int .u8 0, .int .u8 0, .int .u8 0, .int .u8 0, .int .u8 0, .int .u8 0, .int .u8 0, .int .u8 0, .int .u8 0, .int .u8 0, .int .u8 0, .int .u8 0, .int .u8 0, .int .u8 0, .int .u8 0, .int .u8 0, .int .u8 0, .int .u8 0, .int .u8 0, .int .u8 0, .int .u8 0, .int .u8 0, .int .u8 0] 26)) (g := v4.heap.size + 1) (by simp))).grown hg5 (by simp))
          | (refine L_store32 rfl _ _ rfl rfl rfl hB5 (by simp) lD ?_; intro v6 hB6 hg6; have hA6 := hA5.grown hg6 (by simp)))
        have b6 : Below v3.heap.size v3 v6 := ((((bb4.alloc bb4.size (.cells #[.int .u8 0, .int .u8 0, .int .u8 0, .int .u8 0, .int .u8 0, .int .u8 0, .int .u8 0, .int .u8 0, .int .u8 0, .int .u8 0, .int .u8 0, .int .u8 0, .int .u8 0, .int .u8 0, .int .u8 0, .int .u8 0, .int .u8 0, .int .u8 0, .int .u8 0, .int .u8 0, .int .u8 0, .int .u8 0, .int .u8 0, .int .u8 0, .int .u8 0, .int .u8 0, .int .u8 0, .int .u8 0, .int .u8 0, .int .u8 0, .int .u8 0, .int .u8 0] 26)).alloc (by have := bb4.size; simp; omega) (.cells #[.int .u8 0, .int .u8 0, .int .u8 0, .int .u8 0, .int .u8 0, .int .u8 0, .int .u8 0, .int .u8 0, .int .u8 0, .int .u8 0, .int .u8 0, .int .u8 0, .int .u8 0, .int .u8 0, .int .u8 0, .int .u8 0, .int .u8 0, .int .u8 0, .int .u8 0, .int .u8 0, .int .u8 0, .int .u8 0, .int .u8 0, .int .u8 0, .int .u8 0, .int .u8 0, .int .u8 0, .int .u8 0, .int .u8 0, .int .u8 0, .int .u8 0, .int .u8 0] 26)).grown hg5 (by have := bb4.size; simp; omega) (fun k hk => by cases hk; exact bb4.size)).grown hg6 (by have := bb4.size; have := hg5.size; simp at this; omega) (fun k hk => by cases hk; have := bb4.size; omega))
        obtain ⟨gE, hgE⟩ : ∃ x, v4.heap.size = x := ⟨_, rfl⟩
        rw [hgE] at hA6 hB6 ⊢
        have k1 := Lib.hid ((HA3.out.bl b6 HA3.out.lt).rng)
        have k2 := Lib.hid ((HB3.out.bl b6 HB3.out.lt).rng)
        have k3 := Lib.hid hA6.rng
        have k4 := Lib.hid hB6.rng
        have Hb6 := Lib.hid (HBr.out.trans ((btr Hb3.out b6).mono HBr.out.size))
        have hq1 := eq32 C lC
        have hq2 := eq32 C lD
        have lc := len32 lC
        have ld := len32 lD
        clear hA5 hB5 hg5 hA6 hB6 hg6 b6 bb4 hgE Hs2 HA3 HB3 Hb3
        go_wp2_with (first
          | (refine L_loadG rfl _ _ rfl _ _ rfl _ _ k1.out Tryd.underlying26 rfl lc ?_)
          | (refine L_loadG rfl _ _ rfl _ _ rfl _ _ k3.out Tryd.underlying26 rfl lc ?_)
          | (refine L_loadG rfl _ _ rfl _ _ rfl _ _ k2.out Tryd.underlying26 rfl ld ?_)
          | (refine L_loadG rfl _ _ rfl _ _ rfl _ _ k4.out Tryd.underlying26 rfl ld ?_))
        exact ⟨⟨0 + 1, by omega, by simp, Hb6.out⟩, by decide⟩
      · have hs1 : Calls Tryd.prog 15 #[.pointer (some ⟨ga, 0, none⟩), .int .i64 1] wr fun e w' => e = .returned (.tuple #[.agg ((hK1 rA rB idl sel pA).c.map B).toArray, .agg ((hK1 rA rB idl sel pA).s.map B).toArray, .bool true]) ∧ Below wr.heap.size wr w' := gsec_1 wr HTr.out.a
        obtain ⟨C, hC⟩ : ∃ C, (hK1 rA rB idl sel pA).c = C := ⟨_, rfl⟩
        obtain ⟨D, hD⟩ : ∃ D, (hK1 rA rB idl sel pA).s = D := ⟨_, rfl⟩
        have lC : C.length = 32 := by rw [← hC]; exact l1
        have lD : D.length = 32 := by rw [← hD]; exact l2
        rw [hC, hD] at hs1
        have HCD := Lib.hid (And.intro hC hD)
        have Hs1 := Lib.hid hs1
        clear hs1 hC hD
        go_upto_region 13 with (first
          | (go_at_call 15; refine Hs1.out.mono ?_; rintro x v1 ⟨rfl, bb1⟩)
          | (refine L_store32 rfl _ _ rfl rfl rfl ((AB_zeros v1 rfl).al (.cells #[.int .u8 0, .int .u8 0, .int .u8 0, .int .u8 0, .int .u8 0, .int .u8 0, .int .u8 0, .int .u8 0, .int .u8 0, .int .u8 0, .int .u8 0, .int .u8 0, .int .u8 0, .int .u8 0, .int .u8 0, .int .u8 0, .int .u8 0, .int .u8 0, .int .u8 0, .int .u8 0, .int .u8 0, .int .u8 0, .int .u8 0, .int .u8 0, .int .u8 0, .int .u8 0, .int .u8 0, .int .u8 0, .int .u8 0, .int .u8 0, .int .u8 0, .int .u8 0] 26)) (by simp) lC ?_; intro v2 hA2 hg2; have hB2 := ((AB_zeros (v1.alloc (.cells #[.int .u8 0, .int .u8 0, .int .u8 0, .int .u8 0, .int .u8 0, .int .u8 0, .int .u8 0, .int .u8 0, .int .u8 0, .int .u8 0, .int .u8 0, .int .u8 0, .int .u8 0, .int .u8 0, .int .u8 0, .int .u8 0, .int .u8 0, .int .u8 0, .int .u8 0, .int .u8 0, .int .u8 0, .int .u8 0, .int .u8 0, .int .u8 0, .int .u8 0, .int .u8 0, .int .u8 0, .int .u8 0, .int .u8 0, .int .u8 0, .int .u8 0, .int .u8 0] 26)) (g := v1.heap.size + 1) (by simp))).grown hg2 (by simp))
          | (refine L_store32 rfl _ _ rfl rfl rfl hB2 (by simp) lD ?_; intro v3 hB3 hg3; have hA3 := hA2.grown hg3 (by simp)))
        have b3 : Below wr.heap.size wr v3 := ((((bb1.alloc bb1.size (.cells #[.int .u8 0, .int .u8 0, .int .u8 0, .int .u8 0, .int .u8 0, .int .u8 0, .int .u8 0, .int .u8 0, .int .u8 0, .int .u8 0, .int .u8 0, .int .u8 0, .int .u8 0, .int .u8 0, .int .u8 0, .int .u8 0, .int .u8 0, .int .u8 0, .int .u8 0, .int .u8 0, .int .u8 0, .int .u8 0, .int .u8 0, .int .u8 0, .int .u8 0, .int .u8 0, .int .u8 0, .int .u8 0, .int .u8 0, .int .u8 0, .int .u8 0, .int .u8 0] 26)).alloc (by have := bb1.size; simp; omega) (.cells #[.int .u8 0, .int .u8 0, .int .u8 0, .int .u8 0, .int .u8 0, .int .u8 0, .int .u8 0, .int .u8 0, .int .u8 0, .int .u8 0, .int .u8 0, .int .u8 0, .int .u8 0, .int .u8 0, .int .u8 0, .int .u8 0, .int .u8 0, .int .u8 0, .int .u8 0, .int .u8 0, .int .u8 0, .int .u8 0, .int .u8 0, .int .u8 0, .int .u8 0, .int .u8 0, .int .u8 0, .int .u8 0, .int .u8 0, .int .u8 0, .int .u8 0, .int .u8 0] 26)).grown hg2 (by have := bb1.size; simp; omega) (fun k hk => by cases hk; exact bb1.size)).grown hg3 (by have := bb1.size; have := hg2.size; simp at this; omega) (fun k hk => by cases hk; have := bb1.size; omega))
        obtain ⟨gC, hgC⟩ : ∃ x, v1.heap.size = x := ⟨_, rfl⟩
        rw [hgC] at hA3 hB3 ⊢
        have t3 := (HTr.out.bel b3).1
        have HA3 := Lib.hid hA3
        have HB3 := Lib.hid hB3
        have hs2 : Calls Tryd.prog 15 #[.pointer (some ⟨gb, 0, none⟩), .int .i64 1] v3 fun e w' => e = .returned (.tuple #[.agg ((hK1 rA rB idl sel pA).c.map B).toArray, .agg ((hK1 rA rB idl sel pA).s.map B).toArray, .bool true]) ∧ Below v3.heap.size v3 w' := gsec_1 v3 t3.b
        rw [HCD.out.1, HCD.out.2] at hs2
        have Hs2 := Lib.hid hs2
        have Hb3 := Lib.hid b3
        clear hA2 hB2 hg2 hA3 hB3 hg3 b3 t3 hs2 bb1 hgC Hs1
        go_upto_region 14 with (first
          | (go_at_call 15; refine Hs2.out.mono ?_; rintro x v4 ⟨rfl, bb4⟩)
          | (refine L_store32 rfl _ _ rfl rfl rfl ((AB_zeros v4 rfl).al (.cells #[.int .u8 0, .int .u8 0, .int .u8 0, .int .u8 0, .int .u8 0, .int .u8 0, .int .u8 0, .int .u8 0, .int .u8 0, .int .u8 0, .int .u8 0, .int .u8 0, .int .u8 0, .int .u8 0, .int .u8 0, .int .u8 0, .int .u8 0, .int .u8 0, .int .u8 0, .int .u8 0, .int .u8 0, .int .u8 0, .int .u8 0, .int .u8 0, .int .u8 0, .int .u8 0, .int .u8 0, .int .u8 0, .int .u8 0, .int .u8 0, .int .u8 0, .int .u8 0] 26)) (by simp) lC ?_; intro v5 hA5 hg5; have hB5 := ((AB_zeros (v4.alloc (.cells #[.int .u8 0, .int .u8 0, .int .u8 0, .int .u8 0, .int .u8 0, .int .u8 0, .int .u8 0, .int .u8 0, .int .u8 0, .int .u8 0, .int .u8 0, .int .u8 0, .int .u8 0, .int .u8 0, .int .u8 0, .int .u8 0, .int .u8 0, .int .u8 0, .int .u8 0, .int .u8 0, .int .u8 0, .int .u8 0, .int .u8 0, .int .u8 0, .int .u8 0, .int .u8 0, .int .u8 0, .int .u8 0, .int .u8 0, .int .u8 0, .int .u8 0, .int .u8 0] 26)) (g := v4.heap.size + 1) (by simp))).grown hg5 (by simp))
          | (refine L_store32 rfl _ _ rfl rfl rfl hB5 (by simp) lD ?_; intro v6 hB6 hg6; have hA6 := hA5.grown hg6 (by simp)))
        have b6 : Below v3.heap.size v3 v6 := ((((bb4.alloc bb4.size (.cells #[.int .u8 0, .int .u8 0, .int .u8 0, .int .u8 0, .int .u8 0, .int .u8 0, .int .u8 0, .int .u8 0, .int .u8 0, .int .u8 0, .int .u8 0, .int .u8 0, .int .u8 0, .int .u8 0, .int .u8 0, .int .u8 0, .int .u8 0, .int .u8 0, .int .u8 0, .int .u8 0, .int .u8 0, .int .u8 0, .int .u8 0, .int .u8 0, .int .u8 0, .int .u8 0, .int .u8 0, .int .u8 0, .int .u8 0, .int .u8 0, .int .u8 0, .int .u8 0] 26)).alloc (by have := bb4.size; simp; omega) (.cells #[.int .u8 0, .int .u8 0, .int .u8 0, .int .u8 0, .int .u8 0, .int .u8 0, .int .u8 0, .int .u8 0, .int .u8 0, .int .u8 0, .int .u8 0, .int .u8 0, .int .u8 0, .int .u8 0, .int .u8 0, .int .u8 0, .int .u8 0, .int .u8 0, .int .u8 0, .int .u8 0, .int .u8 0, .int .u8 0, .int .u8 0, .int .u8 0, .int .u8 0, .int .u8 0, .int .u8 0, .int .u8 0, .int .u8 0, .int .u8 0, .int .u8 0, .int .u8 0] 26)).grown hg5 (by have := bb4.size; simp; omega) (fun k hk => by cases hk; exact bb4.size)).grown hg6 (by have := bb4.size; have := hg5.size; simp at this; omega) (fun k hk => by cases hk; have := bb4.size; omega))
        obtain ⟨gE, hgE⟩ : ∃ x, v4.heap.size = x := ⟨_, rfl⟩
        rw [hgE] at hA6 hB6 ⊢
        have k1 := Lib.hid ((HA3.out.bl b6 HA3.out.lt).rng)
        have k2 := Lib.hid ((HB3.out.bl b6 HB3.out.lt).rng)
        have k3 := Lib.hid hA6.rng
        have k4 := Lib.hid hB6.rng
        have Hb6 := Lib.hid (HBr.out.trans ((btr Hb3.out b6).mono HBr.out.size))
        have hq1 := eq32 C lC
        have hq2 := eq32 D lD
        have lc := len32 lC
        have ld := len32 lD
        clear hA5 hB5 hg5 hA6 hB6 hg6 b6 bb4 hgE Hs2 HA3 HB3 Hb3
        go_wp2_with (first
          | (refine L_loadG rfl _ _ rfl _ _ rfl _ _ k1.out Tryd.underlying26 rfl lc ?_)
          | (refine L_loadG rfl _ _ rfl _ _ rfl _ _ k3.out Tryd.underlying26 rfl lc ?_)
          | (refine L_loadG rfl _ _ rfl _ _ rfl _ _ k2.out Tryd.underlying26 rfl ld ?_)
          | (refine L_loadG rfl _ _ rfl _ _ rfl _ _ k4.out Tryd.underlying26 rfl ld ?_))
        exact ⟨⟨1 + 1, by omega, by simp, Hb6.out⟩, by decide⟩
      · have hs1 : Calls Tryd.prog 15 #[.pointer (some ⟨ga, 0, none⟩), .int .i64 2] wr fun e w' => e = .returned (.tuple #[.agg ((hK2 rA rB idl sel pA pB).c.map B).toArray, .agg ((hK2 rA rB idl sel pA pB).s.map B).toArray, .bool true]) ∧ Below wr.heap.size wr w' := gsec_2 wr HTr.out.a
        obtain ⟨C, hC⟩ : ∃ C, (hK2 rA rB idl sel pA pB).c = C := ⟨_, rfl⟩
        obtain ⟨D, hD⟩ : ∃ D, (hK2 rA rB idl sel pA pB).s = D := ⟨_, rfl⟩
        have lC : C.length = 32 := by rw [← hC]; exact l3
        have lD : D.length = 32 := by rw [← hD]; exact l4
        rw [hC, hD] at hs1
        have HCD := Lib.hid (And.intro hC hD)
        have Hs1 := Lib.hid hs1
        clear hs1 hC hD
        go_upto_region 13 with (first
          | (go_at_call 15; refine Hs1.out.mono ?_; rintro x v1 ⟨rfl, bb1⟩)
          | (refine L_store32 rfl _ _ rfl rfl rfl ((AB_zeros v1 rfl).al (.cells #[.int .u8 0, .int .u8 0, .int .u8 0, .int .u8 0, .int .u8 0, .int .u8 0, .int .u8 0, .int .u8 0, .int .u8 0, .int .u8 0, .int .u8 0, .int .u8 0, .int .u8 0, .int .u8 0, .int .u8 0, .int .u8 0, .int .u8 0, .int .u8 0, .int .u8 0, .int .u8 0, .int .u8 0, .int .u8 0, .int .u8 0, .int .u8 0, .int .u8 0, .int .u8 0, .int .u8 0, .int .u8 0, .int .u8 0, .int .u8 0, .int .u8 0, .int .u8 0] 26)) (by simp) lC ?_; intro v2 hA2 hg2; have hB2 := ((AB_zeros (v1.alloc (.cells #[.int .u8 0, .int .u8 0, .int .u8 0, .int .u8 0, .int .u8 0, .int .u8 0, .int .u8 0, .int .u8 0, .int .u8 0, .int .u8 0, .int .u8 0, .int .u8 0, .int .u8 0, .int .u8 0, .int .u8 0, .int .u8 0, .int .u8 0, .int .u8 0, .int .u8 0, .int .u8 0, .int .u8 0, .int .u8 0, .int .u8 0, .int .u8 0, .int .u8 0, .int .u8 0, .int .u8 0, .int .u8 0, .int .u8 0, .int .u8 0, .int .u8 0, .int .u8 0] 26)) (g := v1.heap.size + 1) (by simp))).grown hg2 (by simp))
          | (refine L_store32 rfl _ _ rfl rfl rfl hB2 (by simp) lD ?_; intro v3 hB3 hg3; have hA3 := hA2.grown hg3 (by simp)))
        have b3 : Below wr.heap.size wr v3 := ((((bb1.alloc bb1.size (.cells #[.int .u8 0, .int .u8 0, .int .u8 0, .int .u8 0, .int .u8 0, .int .u8 0, .int .u8 0, .int .u8 0, .int .u8 0, .int .u8 0, .int .u8 0, .int .u8 0, .int .u8 0, .int .u8 0, .int .u8 0, .int .u8 0, .int .u8 0, .int .u8 0, .int .u8 0, .int .u8 0, .int .u8 0, .int .u8 0, .int .u8 0, .int .u8 0, .int .u8 0, .int .u8 0, .int .u8 0, .int .u8 0, .int .u8 0, .int .u8 0, .int .u8 0, .int .u8 0] 26)).alloc (by have := bb1.size; simp; omega) (.cells #[.int .u8 0, .int .u8 0, .int .u8 0, .int .u8 0, .int .u8 0, .int .u8 0, .int .u8 0, .int .u8 0, .int .u8 0, .int .u8 0, .int .u8 0, .int .u8 0, .int .u8 0, .int .u8 0, .int .u8 0, .int .u8 0, .int .u8 0, .int .u8 0, .int .u8 0, .int .u8 0, .int .u8 0, .int .u8 0, .int .u8 0, .int .u8 0, .int .u8 0, .int .u8 0, .int .u8 0, .int .u8 0, .int .u8 0, .int .u8 0, .int .u8 0, .int .u8 0] 26)).grown hg2 (by have := bb1.size; simp; omega) (fun k hk => by cases hk; exact bb1.size)).grown hg3 (by have := bb1.size; have := hg2.size; simp at this; omega) (fun k hk => by cases hk; have := bb1.size; omega))
        obtain ⟨gC, hgC⟩ : ∃ x, v1.heap.size = x := ⟨_, rfl⟩
        rw [hgC] at hA3 hB3 ⊢
        have t3 := (HTr.out.bel b3).1
        have HA3 := Lib.hid hA3
        have HB3 := Lib.hid hB3
        have hs2 : Calls Tryd.prog 15 #[.pointer (some ⟨gb, 0, none⟩), .int .i64 2] v3 fun e w' => e = .returned (.tuple #[.agg ((hK2 rA rB idl sel pA pB).c.map B).toArray, .agg ((hK2 rA rB idl sel pA pB).s.map B).toArray, .bool true]) ∧ Below v3.heap.size v3 w' := gsec_2 v3 t3.b
        rw [HCD.out.1, HCD.out.2] at hs2
        have Hs2 := Lib.hid hs2
        have Hb3 := Lib.hid b3
        clear hA2 hB2 hg2 hA3 hB3 hg3 b3 t3 hs2 bb1 hgC Hs1
        go_upto_region 14 with (first
          | (go_at_call 15; refine Hs2.out.mono ?_; rintro x v4 ⟨rfl, bb4⟩)
          | (refine L_store32 rfl _ _ rfl rfl rfl ((AB_zeros v4 rfl).al (.cells #[.int .u8 0, .int .u8 0, .int .u8 0, .int .u8 0, .int .u8 0, .int .u8 0, .int .u8 0, .int .u8 0, .int .u8 0, .int .u8 0, .int .u8 0, .int .u8 0, .int .u8 0, .int .u8 0, .int .u8 0, .int .u8 0, .int .u8 0, .int .u8 0, .int .u8 0, .int .u8 0, .int .u8 0, .int .u8 0, .int .u8 0, .int .u8 0, .int .u8 0, .int .u8 0, .int .u8 0, .int .u8 0, .int .u8 0, .int .u8 0, .int .u8 0, .int .u8 0] 26)) (by simp) lC ?_; intro v5 hA5 hg5; have hB5 := ((AB_zeros (v4.alloc (.cells #[.int .u8 0, .int .u8 0, .int .u8 0, .int .u8 0, .int .u8 0, .int .u8 0, .int .u8 0, .int .u8 0, .int .u8 0, .int .u8 0, .int .u8 0, .int .u8 0, .int .u8 0, .int .u8 0, .int .u8 0, .int .u8 0, .int .u8 0, .int .u8 0, .int .u8 0, .int .u8 0, .int .u8 0, .int .u8 0, .int .u8 0, .int .u8 0, .int .u8 0, .int .u8 0, .int .u8 0, .int .u8 0, .int .u8 0, .int .u8 0, .int .u8 0, .int .u8 0] 26)) (g := v4.heap.size + 1) (by simp))).grown hg5 (by simp))
          | (refine L_store32 rfl _ _ rfl rfl rfl hB5 (by simp) lD ?_; intro v6 hB6 hg6; have hA6 := hA5.grown hg6 (by simp)))
        have b6 : Below v3.heap.size v3 v6 := ((((bb4.alloc bb4.size (.cells #[.int .u8 0, .int .u8 0, .int .u8 0, .int .u8 0, .int .u8 0, .int .u8 0, .int .u8 0, .int .u8 0, .int .u8 0, .int .u8 0, .int .u8 0, .int .u8 0, .int .u8 0, .int .u8 0, .int .u8 0, .int .u8 0, .int .u8 0, .int .u8 0, .int .u8 0, .int .u8 0, .int .u8 0, .int .u8 0, .int .u8 0, .int .u8 0, .int .u8 0, .int .u8 0, .int .u8 0, .int .u8 0, .int .u8 0, .int .u8 0, .int .u8 0, .int .u8 0] 26)).alloc (by have := bb4.size; simp; omega) (.cells #[.int .u8 0, .int .u8 0, .int .u8 0, .int .u8 0, .int .u8 0, .int .u8 0, .int .u8 0, .int .u8 0, .int .u8 0, .int .u8 0, .int .u8 0, .int .u8 0, .int .u8 0, .int .u8 0, .int .u8 0, .int .u8 0, .int .u8 0, .int .u8 0, .int .u8 0, .int .u8 0, .int .u8 0, .int .u8 0, .int .u8 0, .int .u8 0, .int .u8 0, .int .u8 0, .int .u8 0, .int .u8 0, .int .u8 0, .int .u8 0, .int .u8 0, .int .u8 0] 26)).grown hg5 (by have := bb4.size; simp; omega) (fun k hk => by cases hk; exact bb4.size)).grown hg6 (by have := bb4.size; have := hg5.size; simp at this; omega) (fun k hk => by cases hk; have := bb4.size; omega))
        obtain ⟨gE, hgE⟩ : ∃ x, v4.heap.size = x := ⟨_, rfl⟩
        rw [hgE] at hA6 hB6 ⊢
        have k1 := Lib.hid ((HA3.out.bl b6 HA3.out.lt).rng)
        have k2 := Lib.hid ((HB3.out.bl b6 HB3.out.lt).rng)
        have k3 := Lib.hid hA6.rng
        have k4 := Lib.hid hB6.rng
        have Hb6 := Lib.hid (HBr.out.trans ((btr Hb3.out b6).mono HBr.out.size))
        have hq1 := eq32 C lC
        have hq2 := eq32 D lD
        have lc := len32 lC
        have ld := len32 lD
        clear hA5 hB5 hg5 hA6 hB6 hg6 b6 bb4 hgE Hs2 HA3 HB3 Hb3
        go_wp2_with (first
          | (refine L_loadG rfl _ _ rfl _ _ rfl _ _ k1.out Tryd.underlying26 rfl lc ?_)
          | (refine L_loadG rfl _ _ rfl _ _ rfl _ _ k3.out Tryd.underlying26 rfl lc ?_)
          | (refine L_loadG rfl _ _ rfl _ _ rfl _ _ k2.out Tryd.underlying26 rfl ld ?_)
          | (refine L_loadG rfl _ _ rfl _ _ rfl _ _ k4.out Tryd.underlying26 rfl ld ?_))
        exact ⟨⟨2 + 1, by omega, by simp, Hb6.out⟩, by decide⟩
end Go.Proofs.YtkhcpnmbhbhcgaaDoor
