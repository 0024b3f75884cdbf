/- texts UB UF UD in one. -/
import Derived.Test.YtkhcpnmbhbhcgaaDoorYba
import Derived.Test.YtkhcpnmbhbhcgaaDoorYbb

/- Greet: what is heard by a part (plain). -/
set_option maxRecDepth 100000
set_option linter.unusedVariables false
namespace Go.Proofs.YtkhcpnmbhbhcgaaDoor
open Go.RowKit Go.Joins
theorem getD_tk {b : List UInt8} {i m : Nat} (h : i < m) : (b.take m).getD i 0 = b.getD i 0 := by
  simp [List.getD_eq_getElem?_getD, h]
/-- of a message that is cut off nothing is read -/
theorem RD_none (lv k : Nat) (hk : k < 256) (p rest : List UInt8) (hp : p.length ≤ 1024) (S : MS) (hw : S.wrong = 0) (nx : List (Nat × Nat)) (hn : S.nx = (k, lv) :: nx) (m : Nat) (hm : m < 4 + p.length) (hi : inS lv S = (gmsg k p ++ rest).take m) : RD lv S = S := by
  obtain ⟨h0, h1, h2⟩ := g_get k hk p rest hp
  have hl := gmsg_len k p
  have hlen : ((gmsg k p ++ rest).take m).length = m := by rw [List.length_take, List.length_append, hl]; omega
  by_cases hm0 : m = 0
  · subst hm0
    exact RD_nil lv S (by rw [hi]; rfl)
  · have e0 : ((gmsg k p ++ rest).take m).getD 0 0 = (gmsg k p ++ rest).getD 0 0 := getD_tk (by omega)
    rw [RD_eq, if_neg (by
      intro h
      rcases h with h | h
      · exact h hw
      · rw [hi] at h
        rw [h] at hlen
        exact hm0 hlen.symm), hi, hlen]
    have hg : ¬ (4 ≤ m ∧ 1024 < lenG ((gmsg k p ++ rest).take m)) := by
      intro ⟨h4, hb⟩
      have : lenG ((gmsg k p ++ rest).take m) = lenG (gmsg k p ++ rest) := by
        unfold lenG; rw [getD_tk (by omega), getD_tk (by omega), getD_tk (by omega)]
      omega
    rw [if_neg hg, hn]
    dsimp only
    rw [e0, h0, if_neg (by simp)]
    by_cases h4 : m < 4
    · rw [if_pos h4]
    · rw [if_neg h4]
      have : len2 ((gmsg k p ++ rest).take m) = len2 (gmsg k p ++ rest) := by
        unfold len2; rw [getD_tk (by omega), getD_tk (by omega)]
      rw [this, h2, if_pos hm]
section
variable {rA rB id sec pA pB : List UInt8}
theorem take_drop_app {α : Type} (x : List α) (k : Nat) : x.take k ++ x.drop k = x := List.take_append_drop k x
/-- a client that heard not all of the server's word isn't done -/
theorem cl_part (hpB : pB.length ≤ 512) (k : Nat) (hk : k < (gmsg 8 (textS pB) ++ gmsg 20 (hF1 rA rB id sec pA pB)).length) :
    (hearM 1 ((gmsg 8 (textS pB) ++ gmsg 20 (hF1 rA rB id sec pA pB)).take k) (cl2 rA rB id sec pA)).done = false ∧
    hearM 1 ((gmsg 8 (textS pB) ++ gmsg 20 (hF1 rA rB id sec pA pB)).drop k) (hearM 1 ((gmsg 8 (textS pB) ++ gmsg 20 (hF1 rA rB id sec pA pB)).take k) (cl2 rA rB id sec pA)) = cl3 rA rB id sec pA pB := by
  have h2 := cl_2 (rA := rA) (rB := rB) (id := id) (sec := sec) (pA := pA) hpB
  constructor
  · have hv := vsz_bd pB.length
    have ht := textS_len pB
    have hl := gmsg_len 8 (textS pB)
    have hf1 : (hF1 rA rB id sec pA pB).length = 32 := fmF_len _ _
    have hl2 := gmsg_len 20 (hF1 rA rB id sec pA pB)
    rw [List.length_append] at hk
    have hrd := hearM_RD 1 (by decide) ((gmsg 8 (textS pB) ++ gmsg 20 (hF1 rA rB id sec pA pB)).take k) (cl2 rA rB id sec pA)
    rw [show ((1 : Nat) : Int) = 1 from rfl] at hrd
    rw [hrd]
    split
    · rfl
    · by_cases hc : k < 4 + (textS pB).length
      · rw [RD_none 1 8 (by decide) (textS pB) (gmsg 20 (hF1 rA rB id sec pA pB)) (by omega) _ rfl [(20, 1)] rfl k hc (by rw [inS_addI]; rfl)]
        rfl
      · rw [show (gmsg 8 (textS pB) ++ gmsg 20 (hF1 rA rB id sec pA pB)).take k = gmsg 8 (textS pB) ++ (gmsg 20 (hF1 rA rB id sec pA pB)).take (k - (4 + (textS pB).length)) by
          rw [List.take_append, hl, List.take_of_length_le (by omega)]]
        rw [show addI 1 (cl2 rA rB id sec pA) (gmsg 8 (textS pB) ++ (gmsg 20 (hF1 rA rB id sec pA pB)).take (k - (4 + (textS pB).length))) = { cl2 rA rB id sec pA with i1 := gmsg 8 (textS pB) ++ (gmsg 20 (hF1 rA rB id sec pA pB)).take (k - (4 + (textS pB).length)) } by simp [addI, cl2]]
        rw [RD_1 8 (by decide) (textS pB) _ (by omega) (cl2 rA rB id sec pA) rfl [(20, 1)] rfl]
        have h8 : ∀ X : MS, takeM X 8 (gmsg 8 (textS pB)) (textS pB) = ({ X with peer := pB, came := true, said := X.said ++ gmsg 8 (textS pB) }, 0) := by
          intro X
          unfold takeM
          rw [if_neg (by decide), if_neg (by decide), if_pos rfl]
          unfold termS
          have := ttS_text pB [] 512 hpB (by omega)
          rw [List.append_nil] at this
          rw [this]
          dsimp only
          rw [if_neg (by simp)]
        rw [h8]
        rw [RD_none 1 20 (by decide) (hF1 rA rB id sec pA pB) [] (by omega) _ rfl [] rfl (k - (4 + (textS pB).length)) (by omega) (by rw [List.append_nil]; rfl)]
        rfl
  · have h := hearM_app 1 (by decide) ((gmsg 8 (textS pB) ++ gmsg 20 (hF1 rA rB id sec pA pB)).take k) ((gmsg 8 (textS pB) ++ gmsg 20 (hF1 rA rB id sec pA pB)).drop k) (cl2 rA rB id sec pA) (by rw [take_drop_app, show ((1 : Nat) : Int) = 1 from rfl, h2]; rfl)
    rw [take_drop_app, show ((1 : Nat) : Int) = 1 from rfl, h2] at h
    exact h
/-- a server that heard not all of the client's last word isn't done -/
theorem sv_part (k : Nat) (hk : k < 36) :
    (hearM 1 ((gmsg 20 (hF2 rA rB id sec pA pB)).take k) (sv2 rA rB id sec pA pB)).done = false ∧ (hearM 1 ((gmsg 20 (hF2 rA rB id sec pA pB)).take k) (sv2 rA rB id sec pA pB)).wrong = 0 ∧
    hearM 1 ((gmsg 20 (hF2 rA rB id sec pA pB)).drop k) (hearM 1 ((gmsg 20 (hF2 rA rB id sec pA pB)).take k) (sv2 rA rB id sec pA pB)) = sv3 rA rB id sec pA pB := by
  have h2 := sv_2 (rA := rA) (rB := rB) (id := id) (sec := sec) (pA := pA) (pB := pB)
  have hf2 : (hF2 rA rB id sec pA pB).length = 32 := fmF_len _ _
  have hrd := hearM_RD 1 (by decide) ((gmsg 20 (hF2 rA rB id sec pA pB)).take k) (sv2 rA rB id sec pA pB)
  rw [show ((1 : Nat) : Int) = 1 from rfl] at hrd
  have hS : hearM 1 ((gmsg 20 (hF2 rA rB id sec pA pB)).take k) (sv2 rA rB id sec pA pB) = addI 1 (sv2 rA rB id sec pA pB) ((gmsg 20 (hF2 rA rB id sec pA pB)).take k) := by
    rw [hrd]
    split
    · next h =>
      rcases h with h | h
      · exact absurd rfl h
      · rw [h, addI_nil]
    · rw [RD_none 1 20 (by decide) (hF2 rA rB id sec pA pB) [] (by omega) _ rfl [] rfl k (by omega) (by rw [inS_addI, List.append_nil]; rfl)]
  refine ⟨by rw [hS]; rfl, by rw [hS]; rfl, ?_⟩
  have h := hearM_app 1 (by decide) ((gmsg 20 (hF2 rA rB id sec pA pB)).take k) ((gmsg 20 (hF2 rA rB id sec pA pB)).drop k) (sv2 rA rB id sec pA pB) (by rw [take_drop_app, show ((1 : Nat) : Int) = 1 from rfl, h2]; rfl)
  rw [take_drop_app, show ((1 : Nat) : Int) = 1 from rfl, h2] at h
  exact h
end
end Go.Proofs.YtkhcpnmbhbhcgaaDoor

/- GreetWhole: what its loops hold. -/
set_option maxRecDepth 100000
set_option linter.unusedVariables false
namespace Go.Proofs.YtkhcpnmbhbhcgaaDoor
open Go.RowKit Go.Joins
section
variable {rA rB id sec pA pB : List UInt8}
theorem hH_len (hr : rA.length = 32) (hi : id.length ≤ 64) (hp : pA.length ≤ 512) : (hH rA id sec pA).length ≤ 1000 := by
  have := hP_len (id := id) hr hi hp
  unfold hH
  rw [gmsg_len, hB_len]; omega
theorem x2_len (hp : pB.length ≤ 512) : (gmsg 8 (textS pB) ++ gmsg 20 (hF1 rA rB id sec pA pB)).length ≤ 1000 ∧ 0 < (gmsg 8 (textS pB) ++ gmsg 20 (hF1 rA rB id sec pA pB)).length := by
  have hf1 : (hF1 rA rB id sec pA pB).length = 32 := fmF_len _ _
  rw [List.length_append, gmsg_len, gmsg_len, hf1, textS_len]
  have := vsz_bd pB.length
  omega
theorem x3_len : (gmsg 20 (hF2 rA rB id sec pA pB)).length = 36 := by
  have hf2 : (hF2 rA rB id sec pA pB).length = 32 := fmF_len _ _
  rw [gmsg_len, hf2]
theorem bn_cl1 (hr : rA.length = 32) (hi : id.length ≤ 64) (hp : pA.length ≤ 512) (hs : sec.length ≤ 1000000) : Bn (cl1 rA id sec pA) 4000000000 1000 := by
  have h := (new_bn false hr hi hp hs).out
  rw [new_cl, out_cl0] at h
  exact h.mono (by omega)
theorem bn_cl2 (hr : rA.length = 32) (hi : id.length ≤ 64) (hp : pA.length ≤ 512) (hs : sec.length ≤ 1000000) (hrB : rB.length = 32) : Bn (cl2 rA rB id sec pA) 4000000000 10000 := by
  have h := (bn_cl1 hr hi hp hs).hear 0 (gmsg 2 rB)
  rw [cl_1 hrB] at h
  exact h.mono (by rw [gmsg_len]; omega)
theorem bn_cl3 (hr : rA.length = 32) (hi : id.length ≤ 64) (hp : pA.length ≤ 512) (hs : sec.length ≤ 1000000) (hrB : rB.length = 32) (hpB : pB.length ≤ 512) : Bn (cl3 rA rB id sec pA pB) 4000000000 20000 := by
  have h := (bn_cl2 hr hi hp hs hrB).hear 1 (gmsg 8 (textS pB) ++ gmsg 20 (hF1 rA rB id sec pA pB))
  rw [cl_2 hpB] at h
  exact h.mono (by have := (x2_len (rA := rA) (rB := rB) (id := id) (sec := sec) (pA := pA) hpB).1; omega)
theorem bn_sv1 (hr : rA.length = 32) (hi : id.length ≤ 64) (hp : pA.length ≤ 512) (hs : sec.length ≤ 1000000) (hrB : rB.length = 32) (hpB : pB.length ≤ 512) : Bn (sv1 rA rB id sec pA pB) 4000000000 1000 := by
  have h := (new_bn (rA := rB) (pA := pB) true hrB hi hpB hs).hear 0 (hH rA id sec pA)
  rw [sv_1 hr hi hp] at h
  exact h.mono (by have := hH_len (sec := sec) hr hi hp; omega)
theorem bn_sv2 (hr : rA.length = 32) (hi : id.length ≤ 64) (hp : pA.length ≤ 512) (hs : sec.length ≤ 1000000) (hrB : rB.length = 32) (hpB : pB.length ≤ 512) : Bn (sv2 rA rB id sec pA pB) 4000000000 1000 := by
  have h := (bn_sv1 hr hi hp hs hrB hpB).out
  rw [out_sv1] at h
  exact h
end
section
variable {w V w1 : World} {ra rb r1 r2 r1' : Nat → Nat} {g1 g2 : Nat} {S1 S2 S1' : MS} {A1 A2 A1' : MA} {N0 : Nat} {pa : Option Addr} {pn pc : Nat} {cs : List Value} {ps ps' : List (Nat × List UInt8)} {cs' : List Value} {q l : Nat} {ad : Option Addr} {n c : Nat} {x : List UInt8}
theorem Bn.hears {D : Nat} (hB : Bn S2 4000000000 D) {role : Nat → Nat} (hM : GM V role g2 S2 A2) {a' : Option Addr} {n' c' : Nat} {x' : List UInt8} (hb : BS V a' n' c' x') (hD : D + n' ≤ 200000000000) (hK : KT V) (hR : role 3 = 0) (lv : Int) :
    Calls Tryd.prog 12 #[.pointer (some ⟨g2, 0, none⟩), .int .i64 lv, .slice a' n' c'] V fun e w' => e = .returned (.int .u64 ((hearM lv x' S2).wrong : Int)) ∧ ∃ r2' A2', GM w' r2' g2 (hearM lv x' S2) A2' ∧ Kpt V w' role r2' := by
  have q1 := hB.said
  have q2 := hB.o0
  have q3 := hB.o1
  have q4 := hB.i0
  have q5 := hB.i1
  have q6 := hB.sec
  exact ghear_any V hM hb (by omega) (by omega) (by omega) (by omega) hB.par (by omega) (by omega) hK hR lv
theorem InS.hears (h : InS w V ra rb r1 r2 g1 g2 S1 S2 A1 A2 N0 pa pn pc cs ps' cs' q l ad n c x) {a' : Option Addr} {n' c' : Nat} {x' : List UInt8} (hb : BS V a' n' c' x') {D : Nat} (hB : Bn S2 4000000000 D) (hD : D + n' ≤ 200000000000) (lv : Int) :
    Calls Tryd.prog 12 #[.pointer (some ⟨g2, 0, none⟩), .int .i64 lv, .slice a' n' c'] V fun e w' => e = .returned (.int .u64 ((hearM lv x' S2).wrong : Int)) ∧ ∃ r2' A2', InS w w' ra rb r1 r2' g1 g2 S1 (hearM lv x' S2) A1 A2' N0 pa pn pc cs ps' cs' q l ad n c x ∧ Kpt V w' r2 r2' :=
  (hB.hears h.p.tm.b hb hD h.p.tm.kt h.p.tm.z2 lv).mono fun e w' ⟨h1, r2', A2', hm, hk⟩ => ⟨h1, r2', A2', h.hear hm hk, hk⟩
theorem TM.hears (h : TM V r1 r2 g1 g2 S1 S2 A1 A2) {a' : Option Addr} {n' c' : Nat} {x' : List UInt8} (hb : BS V a' n' c' x') {D : Nat} (hB : Bn S2 4000000000 D) (hD : D + n' ≤ 200000000000) (lv : Int) :
    Calls Tryd.prog 12 #[.pointer (some ⟨g2, 0, none⟩), .int .i64 lv, .slice a' n' c'] V fun e w' => e = .returned (.int .u64 ((hearM lv x' S2).wrong : Int)) ∧ ∃ r2' A2', TM w' r1 r2' g1 g2 S1 (hearM lv x' S2) A1 A2' ∧ Kp2 V w' r1 r2 r1 r2' :=
  (hB.hears h.b hb hD h.kt h.z2 lv).mono fun e w' ⟨h1, r2', A2', hm, hk⟩ => by
    obtain ⟨t1, t2⟩ := h.step2 hm hk
    exact ⟨h1, r2', A2', t1, t2⟩
theorem InS.hearsTo (h : InS w V ra rb r1 r2 g1 g2 S1 S2 A1 A2 N0 pa pn pc cs ps' cs' q l ad n c x) {a' : Option Addr} {n' c' : Nat} {x' : List UInt8} (hb : BS V a' n' c' x') {D : Nat} (hB : Bn S2 4000000000 D) (hD : D + n' ≤ 200000000000) (lv : Int) {S3 : MS} (hS : hearM lv x' S2 = S3) (wn : Int) (hw : (S3.wrong : Int) = wn) :
    Calls Tryd.prog 12 #[.pointer (some ⟨g2, 0, none⟩), .int .i64 lv, .slice a' n' c'] V fun e w' => e = .returned (.int .u64 wn) ∧ ∃ r2' A2', InS w w' ra rb r1 r2' g1 g2 S1 S3 A1 A2' N0 pa pn pc cs ps' cs' q l ad n c x ∧ Kpt V w' r2 r2' := by
  have h1 := h.hears hb hB hD lv
  rw [hS, hw] at h1
  exact h1
theorem TM.hearsTo (h : TM V r1 r2 g1 g2 S1 S2 A1 A2) {a' : Option Addr} {n' c' : Nat} {x' : List UInt8} (hb : BS V a' n' c' x') {D : Nat} (hB : Bn S2 4000000000 D) (hD : D + n' ≤ 200000000000) (lv : Int) {S3 : MS} (hS : hearM lv x' S2 = S3) (wn : Int) (hw : (S3.wrong : Int) = wn) :
    Calls Tryd.prog 12 #[.pointer (some ⟨g2, 0, none⟩), .int .i64 lv, .slice a' n' c'] V fun e w' => e = .returned (.int .u64 wn) ∧ ∃ r2' A2', TM w' r1 r2' g1 g2 S1 S3 A1 A2' ∧ Kp2 V w' r1 r2 r1 r2' := by
  have h1 := h.hears hb hB hD lv
  rw [hS, hw] at h1
  exact h1
theorem PcS.first (hT : TM V r1 r2 g1 g2 S1 S2 A1 A2) (hK : Kp2 w V ra rb r1 r2) (hm : GM w1 r1' g1 S1' A1') (hk : Kpt V w1 r1 r1') {pl : Nat} (hO : OW w1 V.heap.size 36 2 pa pl pc cs) (hP : PcOf w1 r1' V.heap.size r1 ps cs) :
    PcS w w1 ra rb r1' r2 g1 g2 S1' S2 A1' A2 V.heap.size pa pl pc cs ps cs := by
  obtain ⟨t1, k1⟩ := hT.step1 hm hk
  exact ⟨t1, hK.trans k1, hO.rs, fun ad ha => hT.b.gp.top _ (hO.base_le ha).1, fun ad ha => (hO.base_le ha).2, PcOf.to hT.dis hP, k1.size, hK.size⟩
theorem InS.bel {w' : World} (h : InS w V ra rb r1 r2 g1 g2 S1 S2 A1 A2 N0 pa pn pc cs ps' cs' q l ad n c x) (hb : Below V.heap.size V w') : InS w w' ra rb r1 r2 g1 g2 S1 S2 A1 A2 N0 pa pn pc cs ps' cs' q l ad n c x :=
  h.hear (h.p.tm.b.below hb) (Below.kpt hb h.p.tm.b.gp.top)
theorem InS.c0 (h : InS w V ra rb r1 r2 g1 g2 S1 S2 A1 A2 N0 pa pn pc cs ps' cs' q l ad n c x) : V.cell? ⟨q, 0, none⟩ = some (.int .i64 (l : Int)) := by simp [World.cell?, h.box]
theorem InS.c1 (h : InS w V ra rb r1 r2 g1 g2 S1 S2 A1 A2 N0 pa pn pc cs ps' cs' q l ad n c x) : V.cell? ⟨q, 1, none⟩ = some (.slice ad n c) := by simp [World.cell?, h.box]
end
/-- the row of a piece that the law keeps -/
structure QP (w : World) (r1 r2 : Nat → Nat) (q N0 : Nat) (v0 v1 : Value) : Prop where
  box : w.heap[q]? = some (.cells #[v0, v1] 36 (0, 0))
  q1 : r1 q = 0
  q2 : r2 q = 0
  lt : q < N0
  ne : q ≠ 3
section
variable {w w' : World} {r1 r2 r1' r2' : Nat → Nat} {q N0 : Nat} {v0 v1 : Value}
theorem QP.lth (h : QP w r1 r2 q N0 v0 v1) : q < w.heap.size := (Array.getElem?_eq_some_iff.1 h.box).1
theorem QP.c0 (h : QP w r1 r2 q N0 v0 v1) : w.cell? ⟨q, 0, none⟩ = some v0 := by simp [World.cell?, h.box]
theorem QP.c1 (h : QP w r1 r2 q N0 v0 v1) : w.cell? ⟨q, 1, none⟩ = some v1 := by simp [World.cell?, h.box]
theorem QP.fr (h : QP w r1 r2 q N0 v0 v1) (i : Nat) : w.frozen? ⟨q, i, none⟩ = false := by simp [World.frozen?, h.box]
theorem QP.k2 (h : QP w r1 r2 q N0 v0 v1) (hk : Kpt w w' r2 r2') : QP w' r1 r2' q N0 v0 v1 := ⟨(hk.blk q h.lth h.q2).1.trans h.box, h.q1, (hk.blk q h.lth h.q2).2, h.lt, h.ne⟩
theorem QP.k1 (h : QP w r1 r2 q N0 v0 v1) (hk : Kpt w w' r1 r1') : QP w' r1' r2 q N0 v0 v1 := ⟨(hk.blk q h.lth h.q1).1.trans h.box, (hk.blk q h.lth h.q1).2, h.q2, h.lt, h.ne⟩
theorem QP.kp (h : QP w r1 r2 q N0 v0 v1) (hk : Kp2 w w' r1 r2 r1' r2') : QP w' r1' r2' q N0 v0 v1 := ⟨(hk.blk q h.lth h.q1 h.q2).1.trans h.box, (hk.blk q h.lth h.q1 h.q2).2.1, (hk.blk q h.lth h.q1 h.q2).2.2, h.lt, h.ne⟩
theorem QP.grow (h : QP w r1 r2 q N0 v0 v1) {row : Option Nat} (hg : w.grownBy w' row) (hr : some q ≠ row) : QP w' r1 r2 q N0 v0 v1 := ⟨(hg.block q h.lth hr).trans h.box, h.q1, h.q2, h.lt, h.ne⟩
theorem QP.bel (h : QP w r1 r2 q N0 v0 v1) (hb : Below w.heap.size w w') : QP w' r1 r2 q N0 v0 v1 := ⟨(hb.block q h.lth).trans h.box, h.q1, h.q2, h.lt, h.ne⟩
theorem QP.mono (h : QP w r1 r2 q N0 v0 v1) {M : Nat} (hM : N0 ≤ M) : QP w r1 r2 q M v0 v1 := ⟨h.box, h.q1, h.q2, Nat.lt_of_lt_of_le h.lt hM, h.ne⟩
theorem QP.s1 (h : QP w r1 r2 q N0 v0 v1) (v : Value) : QP (w.setCell ⟨q, 1, none⟩ v) r1 r2 q N0 v0 v := ⟨by have := h.box; simp [World.setCell, Array.getElem?_modify, this], h.q1, h.q2, h.lt, h.ne⟩
end
theorem below_drewN {B : Nat} {a w : World} (h : Below B a w) (k : Nat) : Below B a (w.drewN k) := ⟨h.os, h.tape, h.output, h.size, h.block⟩
theorem iPiece : (Tryd.prog.info? 36).map (·.size) = some 2 := by kernel_rfl
theorem rng2 {w : World} {q : Nat} {v0 v1 : Value} {t : TypeId} (h : w.heap[q]? = some (.cells #[v0, v1] t (0, 0))) : w.rangeAt q 0 [v0, v1] := fun j v hv => by
  simp only [World.cell?, Nat.zero_add, h]
  simpa using hv
theorem one2 (k : IntKind) (z : Int) (a : Option Addr) (n c : Nat) : ∀ v ∈ [Value.int k z, .slice a n c], v.oneCell' = true := by
  intro v hv; simp at hv; rcases hv with rfl | rfl <;> rfl
/-- a row that is nobody's and none of the pieces' turns -/
theorem PcS.keepq {w w2 wj : World} {ra rb r1 r2 : Nat → Nat} {g1 g2 : Nat} {S1 S2 : MS} {A1 A2 : MA} {N0 q : Nat} {pa : Option Addr} {pn pc : Nat} {cs : List Value} {ps' : List (Nat × List UInt8)} {cs' : List Value}
    (h : PcS w wj ra rb r1 r2 g1 g2 S1 S2 A1 A2 N0 pa pn pc cs ps' cs') (hg : wj.grownBy w2 (some q)) (hq1 : r1 q = 0) (hq2 : r2 q = 0) (hne : q ≠ 3) (hw : w.heap.size ≤ q) (hps : ps' = []) (hp : ∀ a, pa = some a → a.block ≠ q) : PcS w w2 ra rb r1 r2 g1 g2 S1 S2 A1 A2 N0 pa pn pc cs ps' cs' := by
  subst hps
  have hb : ∀ {r : Nat → Nat}, r q = 0 → ∀ k, k < wj.heap.size → r k ≠ 0 → w2.heap[k]? = wj.heap[k]? := fun hr k hl hk => hg.block k hl (fun he => by injection he with he; rw [he] at hk; exact hk hr)
  have hKr : KT w2 := fun j x hx => by
    rw [World.cell?_of_block (w := wj) (a := ⟨3, j, none⟩) (hg.block _ h.tm.kt.lt (fun he => by injection he with he; exact hne he.symm))]
    exact h.tm.kt j x hx
  have tm : TM w2 r1 r2 g1 g2 S1 S2 A1 A2 := ⟨h.tm.a.kept hg.size (hb hq1), h.tm.b.kept hg.size (hb hq2), h.tm.dis, h.tm.z1, h.tm.z2, hKr⟩
  refine ⟨tm, ⟨hg.os.trans h.kp.os, hg.tape.trans h.kp.tape, hg.output.trans h.kp.output, Nat.le_trans h.kp.size hg.size, fun j hj h1 h2 => ?_⟩, RS.grown h.row hg (fun a ha he => by injection he with he; exact hp a ha he), h.rb, fun a ha => Nat.lt_of_lt_of_le (h.rl a ha) hg.size, h.ps, Nat.le_trans h.n0 hg.size, h.wN⟩
  obtain ⟨e1, e2, e3⟩ := h.kp.blk j hj h1 h2
  exact ⟨(hg.block j (Nat.lt_of_lt_of_le hj h.kp.size) (fun he => by injection he with he; omega)).trans e1, e2, e3⟩
theorem InS.keepq {w w2 wj : World} {ra rb r1 r2 : Nat → Nat} {g1 g2 : Nat} {S1 S2 : MS} {A1 A2 : MA} {N0 q0 : Nat} {pa : Option Addr} {pn pc : Nat} {cs : List Value} {ps' : List (Nat × List UInt8)} {cs' : List Value} {q l : Nat} {ad : Option Addr} {n c : Nat} {x : List UInt8}
    (h : InS w wj ra rb r1 r2 g1 g2 S1 S2 A1 A2 N0 pa pn pc cs ps' cs' q l ad n c x) (hg : wj.grownBy w2 (some q0)) (hq1 : r1 q0 = 0) (hq2 : r2 q0 = 0) (hne : q0 ≠ 3) (hw : w.heap.size ≤ q0) (hps : ps' = []) (hp : ∀ a, pa = some a → a.block ≠ q0) (hq : q ≠ q0) (ha : ∀ a, ad = some a → a.block ≠ q0) :
    InS w w2 ra rb r1 r2 g1 g2 S1 S2 A1 A2 N0 pa pn pc cs ps' cs' q l ad n c x :=
  ⟨h.p.keepq hg hq1 hq2 hne hw hps hp, (hg.block q h.lt (fun he => by injection he with he; exact hq he)).trans h.box, h.q1, h.q2, h.qn, h.qr, h.qp, RS.grown h.bs hg (fun a h1 he => by injection he with he; exact ha a h1 he), h.ar, h.al⟩
/-- a list of two pieces -/
theorem PcOf.two {w : World} {r r0 : Nat → Nat} {b0 l0 l1 : Nat} {x0 x1 : List UInt8} {cs : List Value} (h : PcOf w r b0 r0 [(l0, x0), (l1, x1)] cs) : ∃ a0 n0 c0 a1 n1 c1, cs = [.int .i64 (l0 : Int), .slice a0 n0 c0, .int .i64 (l1 : Int), .slice a1 n1 c1] ∧ ∀ ad, a1 = some ad → r0 ad.block ≠ 0 := by
  obtain ⟨a0, n0, c0, cs1, h1, _, _, _, a1, n1, c1, cs2, h2, _, _, h3, h4⟩ := h
  refine ⟨a0, n0, c0, a1, n1, c1, ?_, fun ad ha => (h3 ad ha).2⟩
  rw [h1, h2]
  have : cs2 = [] := h4
  rw [this]
end Go.Proofs.YtkhcpnmbhbhcgaaDoor

/- law13.GreetWhole: its walk. -/
set_option maxRecDepth 100000
set_option linter.unusedVariables false
namespace Go.Proofs.YtkhcpnmbhbhcgaaDoor
open Go.RowKit Go.Joins
set_option maxHeartbeats 8000000 in
theorem greetWhole_walk (W : World) (sa sb : Bool) {a1 a2 a3 a4 b1 b2 b3 b4 : Option Addr} {n1 c1 n2 c2 n3 c3 n4 c4 m1 d1 m2 d2 m3 d3 m4 d4 : Nat} {idA secA parA rndA idB secB parB rndB : List UInt8} (hia : BS W a1 n1 c1 idA) (hsa : BS W a2 n2 c2 secA) (hpa : BS W a3 n3 c3 parA) (hra : BS W a4 n4 c4 rndA) (hib : BS W b1 m1 d1 idB) (hsb : BS W b2 m2 d2 secB) (hpb : BS W b3 m3 d3 parB) (hrb : BS W b4 m4 d4 rndB) (u : Nat) (hu : u < 256) (hK : KT W) :
    Calls Tryd.prog 3 #[.agg #[.bool sa, .slice a1 n1 c1, .slice a2 n2 c2, .slice a3 n3 c3, .slice a4 n4 c4], .agg #[.bool sb, .slice b1 m1 d1, .slice b2 m2 d2, .slice b3 m3 d3, .slice b4 m4 d4], .int .u8 (u : Int)] W fun e W' => e = .returned (.bool true) ∧ Below W.heap.size W W' := by
  have hst := TwoZ.start W sa (.slice a1 n1 c1) (.slice a2 n2 c2) (.slice a3 n3 c3) (.slice a4 n4 c4) sb (.slice b1 m1 d1) (.slice b2 m2 d2) (.slice b3 m3 d3) (.slice b4 m4 d4)
  obtain ⟨W1, hW1⟩ : ∃ x, (W.alloc (.cells #[.bool sa, .slice a1 n1 c1, .slice a2 n2 c2, .slice a3 n3 c3, .slice a4 n4 c4] 24)).alloc (.cells #[.bool sb, .slice b1 m1 d1, .slice b2 m2 d2, .slice b3 m3 d3, .slice b4 m4 d4] 24) = x := ⟨_, rfl⟩
  obtain ⟨k, hk⟩ : ∃ k, W.heap.size = k := ⟨_, rfl⟩
  rw [hW1, hk] at hst
  have hK1 : KT W1 := hK.below hst.bel (by omega)
  have Haw := Lib.hid (awake13_any W1 hK1)
  have HZ1 := Lib.hid hst
  have HKk := Lib.hid hk
  have HK := Lib.hid hK
  have bls : ∀ (w' : World), Below k W w' → ∀ (a : Option Addr) (n c : Nat) (xs : List UInt8), BS W a n c xs → BS w' a n c xs := fun w' hb a n c xs h => RS.below h hb (by omega)
  have BLS := Lib.hid bls
  have HA := Lib.hid (And.intro hia (And.intro hsa (And.intro hpa hra)))
  have HB := Lib.hid (And.intro hib (And.intro hsb (And.intro hpb hrb)))
  clear hst hK1 hK bls hia hsa hpa hra hib hsb hpb hrb
  go_enter Tryd.func3, Tryd.ntmps3
  go_upto_region 1 with (fail)
  clear hW1 hk
  go_upto_region 3 with (go_at_call 8; refine Haw.out.mono ?_; rintro x w2 ⟨rfl, hb2⟩)
  have HZ2 := Lib.hid (HZ1.out.next hb2)
  clear hb2 Haw HZ1
  obtain ⟨V, hV⟩ : ∃ V, w2.drew = V := ⟨_, rfl⟩
  have hz : TwoZ W V k sa (.slice a1 n1 c1) (.slice a2 n2 c2) (.slice a3 n3 c3) (.slice a4 n4 c4) sb (.slice b1 m1 d1) (.slice b2 m2 d2) (.slice b3 m3 d3) (.slice b4 m4 d4) := by rw [← hV]; exact HZ2.out.next ((Below.refl _ w2).drew)
  have HZ3 := Lib.hid hz
  clear hz
  refine wp_region_held_drew (S := fun w' => w'.cell? ⟨k, 1, none⟩ = some (.slice a1 n1 c1) ∧ w'.cell? ⟨k, 2, none⟩ = some (.slice a2 n2 c2)) (by kernel_rfl) (by rw [hV]; exact ⟨HZ3.out.a.c1, HZ3.out.a.c2⟩) (fun hHeld => ?_)
  rw [hV] at hHeld ⊢
  refine wpAnyH_take (i := 0) (v := .pointer (some ⟨k, 1, none⟩)) rfl (by kernel_rfl) (by kernel_rfl) (by kernel_rfl) (fun _ _ _ h => h) (Or.inl ⟨by rfl, fun w h => by go_simp⟩) hHeld ?_
  try simp only [Act.put, List.getElem_toArray, List.getElem_cons_zero, List.setIfInBounds_toArray, List.set_cons_zero, List.set_cons_succ]
  refine wpAnyH_take (i := 1) (v := .slice a1 n1 c1) rfl (by kernel_rfl) (by kernel_rfl) (by kernel_rfl) (fun _ _ _ h => h) (Or.inl ⟨by rfl, fun w h => by have h2 := h.1; go_simp⟩) hHeld ?_
  try simp only [Act.put, List.getElem_toArray, List.getElem_cons_succ, List.getElem_cons_zero, List.setIfInBounds_toArray, List.set_cons_zero, List.set_cons_succ]
  refine wpAnyH_take (i := 2) (v := .pointer (some ⟨k, 2, none⟩)) rfl (by kernel_rfl) (by kernel_rfl) (by kernel_rfl) (fun _ _ _ h => h) (Or.inl ⟨by rfl, fun w h => by go_simp⟩) hHeld ?_
  try simp only [Act.put, List.getElem_toArray, List.getElem_cons_succ, List.getElem_cons_zero, List.setIfInBounds_toArray, List.set_cons_zero, List.set_cons_succ]
  refine wpAnyH_take (i := 3) (v := .slice a2 n2 c2) rfl (by kernel_rfl) (by kernel_rfl) (by kernel_rfl) (fun _ _ _ h => h) (Or.inl ⟨by rfl, fun w h => by have h2 := h.2; go_simp⟩) hHeld ?_
  try simp only [Act.put, List.getElem_toArray, List.getElem_cons_succ, List.getElem_cons_zero, List.setIfInBounds_toArray, List.set_cons_zero, List.set_cons_succ]
  refine wpAnyH_take (i := 4) (v := .pointer (some ⟨k + 1, 1, none⟩)) rfl (by kernel_rfl) (by kernel_rfl) (by kernel_rfl) (fun _ _ _ h => h) (Or.inl ⟨by rfl, fun w h => by go_simp⟩) hHeld ?_
  try simp only [Act.put, List.getElem_toArray, List.getElem_cons_succ, List.getElem_cons_zero, List.setIfInBounds_toArray, List.set_cons_zero, List.set_cons_succ]
  refine wpAnyH_ready (rs := [5]) (by kernel_rfl) (by simp) (AllReadyH.cons rfl (fun K hK => ?_) AllReadyH.nil)
  have u := HZ3.out.b.c1
  have f := HZ3.out.b.fr 1
  go_simp
  have hz := HZ3.out.b1 (.slice a1 n1 c1)
  obtain ⟨x0, hx0⟩ : ∃ x, V.setCell ⟨k + 1, 1, none⟩ (.slice a1 n1 c1) = x := ⟨_, rfl⟩
  rw [hx0] at hz ⊢
  refine hK.out _ _ ⟨hz.a.c1, hz.a.c2⟩ (fun hHeld => ?_)
  clear hK K u f hx0
  have HX0 := Lib.hid hz
  clear hz
  try simp only [Act.put, List.getElem_toArray, List.getElem_cons_succ, List.getElem_cons_zero, List.setIfInBounds_toArray, List.set_cons_zero, List.set_cons_succ]
  refine wpAnyH_take (i := 6) (v := .pointer (some ⟨k + 1, 2, none⟩)) rfl (by kernel_rfl) (by kernel_rfl) (by kernel_rfl) (fun _ _ _ h => h) (Or.inl ⟨by rfl, fun w h => by go_simp⟩) hHeld ?_
  try simp only [Act.put, List.getElem_toArray, List.getElem_cons_succ, List.getElem_cons_zero, List.setIfInBounds_toArray, List.set_cons_zero, List.set_cons_succ]
  refine wpAnyH_ready (rs := [7]) (by kernel_rfl) (by simp) (AllReadyH.cons rfl (fun K hK => ?_) AllReadyH.nil)
  have u := HX0.out.b.c2
  have f := HX0.out.b.fr 2
  go_simp
  have hz := HX0.out.b2 (.slice a2 n2 c2)
  obtain ⟨x1, hx1⟩ : ∃ x, x0.setCell ⟨k + 1, 2, none⟩ (.slice a2 n2 c2) = x := ⟨_, rfl⟩
  rw [hx1] at hz ⊢
  refine hK.out _ _ ⟨hz.a.c1, hz.a.c2⟩ (fun hHeld => ?_)
  clear hK K u f hx1
  have HX1 := Lib.hid hz
  clear hz
  try simp only [Act.put, List.getElem_toArray, List.getElem_cons_succ, List.getElem_cons_zero, List.setIfInBounds_toArray, List.set_cons_zero, List.set_cons_succ]
  refine wpAnyH_take (i := 8) (v := .pointer (some ⟨k, 0, none⟩)) rfl (by kernel_rfl) (by kernel_rfl) (by kernel_rfl) (fun _ _ _ h => h) (Or.inl ⟨by rfl, fun w h => by go_simp⟩) hHeld ?_
  try simp only [Act.put, List.getElem_toArray, List.getElem_cons_succ, List.getElem_cons_zero, List.setIfInBounds_toArray, List.set_cons_zero, List.set_cons_succ]
  refine wpAnyH_ready (rs := [9]) (by kernel_rfl) (by simp) (AllReadyH.cons rfl (fun K hK => ?_) AllReadyH.nil)
  have u := HX1.out.a.c0
  have f := HX1.out.a.fr 0
  go_simp
  have hz := HX1.out.a0 false
  obtain ⟨x2, hx2⟩ : ∃ x, x1.setCell ⟨k, 0, none⟩ (.bool false) = x := ⟨_, rfl⟩
  rw [hx2] at hz ⊢
  refine hK.out _ _ ⟨hz.a.c1, hz.a.c2⟩ (fun hHeld => ?_)
  clear hK K u f hx2
  have HX2 := Lib.hid hz
  clear hz
  try simp only [Act.put, List.getElem_toArray, List.getElem_cons_succ, List.getElem_cons_zero, List.setIfInBounds_toArray, List.set_cons_zero, List.set_cons_succ]
  refine wpAnyH_take (i := 10) (v := .pointer (some ⟨k + 1, 0, none⟩)) rfl (by kernel_rfl) (by kernel_rfl) (by kernel_rfl) (fun _ _ _ h => h) (Or.inl ⟨by rfl, fun w h => by go_simp⟩) hHeld ?_
  try simp only [Act.put, List.getElem_toArray, List.getElem_cons_succ, List.getElem_cons_zero, List.setIfInBounds_toArray, List.set_cons_zero, List.set_cons_succ]
  refine wpAnyH_ready (rs := [11]) (by kernel_rfl) (by simp) (AllReadyH.cons rfl (fun K hK => ?_) AllReadyH.nil)
  have u := HX2.out.b.c0
  have f := HX2.out.b.fr 0
  go_simp
  have hz := HX2.out.b0 true
  obtain ⟨x3, hx3⟩ : ∃ x, x2.setCell ⟨k + 1, 0, none⟩ (.bool true) = x := ⟨_, rfl⟩
  rw [hx3] at hz ⊢
  refine hK.out _ _ ⟨hz.a.c1, hz.a.c2⟩ (fun hHeld => ?_)
  clear hK K u f hx3
  have HX3 := Lib.hid hz
  clear hz
  try simp only [Act.put, List.getElem_toArray, List.getElem_cons_succ, List.getElem_cons_zero, List.setIfInBounds_toArray, List.set_cons_zero, List.set_cons_succ]
  refine wpAnyH_done (by kernel_rfl) ?_ _
  try simp only [Act.put, List.getElem_toArray, List.getElem_cons_succ, List.getElem_cons_zero]
  clear hHeld HZ2 HZ3 hV
  have HZ3 := Lib.hid HX3.out
  clear HX3 HX0 HX1 HX2
  obtain ⟨w3, hw3⟩ : ∃ x, x3 = x := ⟨_, rfl⟩
  rw [hw3] at HZ3 ⊢
  have hsd := side_any w3 false (BLS.out w3 HZ3.out.bel _ _ _ _ HA.out.1) (BLS.out w3 HZ3.out.bel _ _ _ _ HA.out.2.1) (BLS.out w3 HZ3.out.bel _ _ _ _ HA.out.2.2.1) (BLS.out w3 HZ3.out.bel _ _ _ _ HA.out.2.2.2)
  have Hsd := Lib.hid hsd
  have Hra := Lib.hid HZ3.out.a.rng
  have hk3 := HZ3.out.lt
  clear hsd
  go_upto_region 5 with (first
    | (refine wpList_load_mid rfl _ _ rfl _ _ rfl _ _ Hra.out Tryd.underlying24 rfl iSide ?_)
    | (go_at_call 9; refine Hsd.out.mono ?_; rintro x w4 ⟨N4, i1, s1, p1, r1, i2, s2, p2, rfl, hq4⟩)
    | (refine L_storeRow rfl 28 _ _ rfl rfl rfl (heap_alloc2a w4 (.cells #[.bool false, .slice none 0 0, .slice none 0 0, .slice none 0 0, .int .u8 0, .int .u8 0, .int .u8 0, .int .u8 0, .int .u8 0, .int .u8 0, .int .u8 0, .int .u8 0, .int .u8 0, .int .u8 0, .int .u8 0, .int .u8 0, .int .u8 0, .int .u8 0, .int .u8 0, .int .u8 0, .int .u8 0, .int .u8 0, .int .u8 0, .int .u8 0, .int .u8 0, .int .u8 0, .int .u8 0, .int .u8 0, .int .u8 0, .int .u8 0, .int .u8 0, .int .u8 0, .int .u8 0, .int .u8 0, .int .u8 0, .int .u8 0] 28) (.cells #[.bool false, .slice none 0 0, .slice none 0 0, .slice none 0 0, .slice none 0 0] 24)) iConf rfl (cfc_len (pad32_len _)) (cfc_one _ i2 s2 p2 _) ?_; intro w5 hc5 hg5; have hz5 := ((HZ3.out.next (hq4.bel.mono (Nat.le_refl _))).grow (grown_alloc2 w4 (.cells #[.bool false, .slice none 0 0, .slice none 0 0, .slice none 0 0, .int .u8 0, .int .u8 0, .int .u8 0, .int .u8 0, .int .u8 0, .int .u8 0, .int .u8 0, .int .u8 0, .int .u8 0, .int .u8 0, .int .u8 0, .int .u8 0, .int .u8 0, .int .u8 0, .int .u8 0, .int .u8 0, .int .u8 0, .int .u8 0, .int .u8 0, .int .u8 0, .int .u8 0, .int .u8 0, .int .u8 0, .int .u8 0, .int .u8 0, .int .u8 0, .int .u8 0, .int .u8 0, .int .u8 0, .int .u8 0, .int .u8 0, .int .u8 0] 28) (.cells #[.bool false, .slice none 0 0, .slice none 0 0, .slice none 0 0, .slice none 0 0] 24)) (fun j hj => by cases hj)).grow hg5 (fun j hj => by cases hj; have := hq4.bel.size; omega); have za5 := (hg5.block _ (by simp) (by simp)).trans (heap_alloc2b w4 (.cells #[.bool false, .slice none 0 0, .slice none 0 0, .slice none 0 0, .int .u8 0, .int .u8 0, .int .u8 0, .int .u8 0, .int .u8 0, .int .u8 0, .int .u8 0, .int .u8 0, .int .u8 0, .int .u8 0, .int .u8 0, .int .u8 0, .int .u8 0, .int .u8 0, .int .u8 0, .int .u8 0, .int .u8 0, .int .u8 0, .int .u8 0, .int .u8 0, .int .u8 0, .int .u8 0, .int .u8 0, .int .u8 0, .int .u8 0, .int .u8 0, .int .u8 0, .int .u8 0, .int .u8 0, .int .u8 0, .int .u8 0, .int .u8 0] 28) (.cells #[.bool false, .slice none 0 0, .slice none 0 0, .slice none 0 0, .slice none 0 0] 24)))
    | (refine L_storeRow (old := [.bool false, .slice none 0 0, .slice none 0 0, .slice none 0 0, .slice none 0 0]) rfl 24 _ _ rfl rfl rfl za5 iSide rfl rfl (szcells false i1 s1 p1 r1) ?_; intro w6 hz6 hg6))
  have hk4 : k + 1 < w4.heap.size := by have := hq4.bel.size; omega
  have g45 : w4.grownBy w5 none := grown_newq (grown_alloc2 w4 (.cells #[.bool false, .slice none 0 0, .slice none 0 0, .slice none 0 0, .int .u8 0, .int .u8 0, .int .u8 0, .int .u8 0, .int .u8 0, .int .u8 0, .int .u8 0, .int .u8 0, .int .u8 0, .int .u8 0, .int .u8 0, .int .u8 0, .int .u8 0, .int .u8 0, .int .u8 0, .int .u8 0, .int .u8 0, .int .u8 0, .int .u8 0, .int .u8 0, .int .u8 0, .int .u8 0, .int .u8 0, .int .u8 0, .int .u8 0, .int .u8 0, .int .u8 0, .int .u8 0, .int .u8 0, .int .u8 0, .int .u8 0, .int .u8 0] 28) (.cells #[.bool false, .slice none 0 0, .slice none 0 0, .slice none 0 0, .slice none 0 0] 24)) hg5 (Nat.le_refl _)
  have HZ6 := Lib.hid (hz5.grow hg6 (fun j hj => by cases hj; omega))
  have g46 : w4.grownBy w6 (some k) := grown_mono (grown_newq g45 hg6 (Nat.le_succ _))
  obtain ⟨qa, hqa⟩ : ∃ x, w4.heap.size = x := ⟨_, rfl⟩
  have hqk : k + 1 < qa := by omega
  have hc6 : CZ w6 qa false i2.v s2.v p2.v (pad32 rndA) := by
    have : CZ w5 qa false i2.v s2.v p2.v (pad32 rndA) := by rw [← hqa]; exact hc5
    exact this.keep (hg6.block _ this.lt (fun he => by injection he with he; omega))
  have nca := hq4.nc (k := k) (by omega)
  have HC6 := Lib.hid hc6
  have HSA := Lib.hid (hq4.c.grow g46 nca.1.1 nca.1.2.1 nca.1.2.2)
  have HRA := Lib.hid (hq4.r.grow g46 nca.2.1 nca.2.2.1 nca.2.2.2)
  have Hxa : Hid ((∀ ad, i2.a = some ad → k + 1 < ad.block) ∧ (∀ ad, s2.a = some ad → k + 1 < ad.block) ∧ (∀ ad, p2.a = some ad → k + 1 < ad.block) ∧ (∀ ad, i1.a = some ad → k + 1 < ad.block) ∧ (∀ ad, s1.a = some ad → k + 1 < ad.block) ∧ (∀ ad, p1.a = some ad → k + 1 < ad.block)) := Lib.hid
    ⟨fun ad ha => by have := (hq4.hi2.base_le ha).1; have := hq4.low; omega, fun ad ha => by have := (hq4.hs2.base_le ha).1; have := hq4.low; omega, fun ad ha => by have := (hq4.hp2.base_le ha).1; have := hq4.low; omega, fun ad ha => by have := (hq4.hi.base_le ha).1; omega, fun ad ha => by have := (hq4.hs.base_le ha).1; omega, fun ad ha => by have := (hq4.hp.base_le ha).1; omega⟩
  have HRQ := Lib.hid (show BS w6 r1.a r1.n r1.c (pad32 rndA) from RS.grown hq4.hr.rs g46 (fun ad ha he => by have := (hq4.hr.base_le ha).1; injection he with he; omega))
  rw [hqa]
  clear hg5 hc5 hz5 za5 hg6 hz6 g45 g46 hc6 nca hq4 hqa Hsd Hra HZ3 hk3 hk4
  have hsd := side_any w6 true (BLS.out w6 HZ6.out.bel _ _ _ _ HA.out.1) (BLS.out w6 HZ6.out.bel _ _ _ _ HA.out.2.1) (BLS.out w6 HZ6.out.bel _ _ _ _ HB.out.2.2.1) (BLS.out w6 HZ6.out.bel _ _ _ _ HB.out.2.2.2)
  have Hsd := Lib.hid hsd
  have Hrb := Lib.hid HZ6.out.b.rng
  have hk6 := HZ6.out.lt
  clear hsd
  go_upto_region 6 with (first
    | (refine wpList_load_mid rfl _ _ rfl _ _ rfl _ _ Hrb.out Tryd.underlying24 rfl iSide ?_)
    | (go_at_call 9; refine Hsd.out.mono ?_; rintro x w7 ⟨N7, j1, t1, q1, e1, j2, t2, q2, rfl, hq7⟩)
    | (refine L_storeRow rfl 28 _ _ rfl rfl rfl (heap_alloc2a w7 (.cells #[.bool false, .slice none 0 0, .slice none 0 0, .slice none 0 0, .int .u8 0, .int .u8 0, .int .u8 0, .int .u8 0, .int .u8 0, .int .u8 0, .int .u8 0, .int .u8 0, .int .u8 0, .int .u8 0, .int .u8 0, .int .u8 0, .int .u8 0, .int .u8 0, .int .u8 0, .int .u8 0, .int .u8 0, .int .u8 0, .int .u8 0, .int .u8 0, .int .u8 0, .int .u8 0, .int .u8 0, .int .u8 0, .int .u8 0, .int .u8 0, .int .u8 0, .int .u8 0, .int .u8 0, .int .u8 0, .int .u8 0, .int .u8 0] 28) (.cells #[.bool false, .slice none 0 0, .slice none 0 0, .slice none 0 0, .slice none 0 0] 24)) iConf rfl (cfc_len (pad32_len _)) (cfc_one _ j2 t2 q2 _) ?_; intro w8 hc8 hg8; have hz8 := ((HZ6.out.next (hq7.bel.mono (Nat.le_refl _))).grow (grown_alloc2 w7 (.cells #[.bool false, .slice none 0 0, .slice none 0 0, .slice none 0 0, .int .u8 0, .int .u8 0, .int .u8 0, .int .u8 0, .int .u8 0, .int .u8 0, .int .u8 0, .int .u8 0, .int .u8 0, .int .u8 0, .int .u8 0, .int .u8 0, .int .u8 0, .int .u8 0, .int .u8 0, .int .u8 0, .int .u8 0, .int .u8 0, .int .u8 0, .int .u8 0, .int .u8 0, .int .u8 0, .int .u8 0, .int .u8 0, .int .u8 0, .int .u8 0, .int .u8 0, .int .u8 0, .int .u8 0, .int .u8 0, .int .u8 0, .int .u8 0] 28) (.cells #[.bool false, .slice none 0 0, .slice none 0 0, .slice none 0 0, .slice none 0 0] 24)) (fun j hj => by cases hj)).grow hg8 (fun j hj => by cases hj; have := hq7.bel.size; omega); have zb8 := (hg8.block _ (by simp) (by simp)).trans (heap_alloc2b w7 (.cells #[.bool false, .slice none 0 0, .slice none 0 0, .slice none 0 0, .int .u8 0, .int .u8 0, .int .u8 0, .int .u8 0, .int .u8 0, .int .u8 0, .int .u8 0, .int .u8 0, .int .u8 0, .int .u8 0, .int .u8 0, .int .u8 0, .int .u8 0, .int .u8 0, .int .u8 0, .int .u8 0, .int .u8 0, .int .u8 0, .int .u8 0, .int .u8 0, .int .u8 0, .int .u8 0, .int .u8 0, .int .u8 0, .int .u8 0, .int .u8 0, .int .u8 0, .int .u8 0, .int .u8 0, .int .u8 0, .int .u8 0, .int .u8 0] 28) (.cells #[.bool false, .slice none 0 0, .slice none 0 0, .slice none 0 0, .slice none 0 0] 24)))
    | (refine L_storeRow (old := [.bool false, .slice none 0 0, .slice none 0 0, .slice none 0 0, .slice none 0 0]) rfl 24 _ _ rfl rfl rfl zb8 iSide rfl rfl (szcells true j1 t1 q1 e1) ?_; intro w9 hz9 hg9))
  have hk7 : k + 1 < w7.heap.size := by have := hq7.bel.size; omega
  have g78 : w7.grownBy w8 none := grown_newq (grown_alloc2 w7 (.cells #[.bool false, .slice none 0 0, .slice none 0 0, .slice none 0 0, .int .u8 0, .int .u8 0, .int .u8 0, .int .u8 0, .int .u8 0, .int .u8 0, .int .u8 0, .int .u8 0, .int .u8 0, .int .u8 0, .int .u8 0, .int .u8 0, .int .u8 0, .int .u8 0, .int .u8 0, .int .u8 0, .int .u8 0, .int .u8 0, .int .u8 0, .int .u8 0, .int .u8 0, .int .u8 0, .int .u8 0, .int .u8 0, .int .u8 0, .int .u8 0, .int .u8 0, .int .u8 0, .int .u8 0, .int .u8 0, .int .u8 0, .int .u8 0] 28) (.cells #[.bool false, .slice none 0 0, .slice none 0 0, .slice none 0 0, .slice none 0 0] 24)) hg8 (Nat.le_refl _)
  have HZ9 := Lib.hid (hz8.grow hg9 (fun j hj => by cases hj; omega))
  have g79 : w7.grownBy w9 (some (k + 1)) := grown_mono (grown_newq g78 hg9 (Nat.le_succ _))
  obtain ⟨qb, hqb⟩ : ∃ x, w7.heap.size = x := ⟨_, rfl⟩
  have hqk2 : k + 1 < qb := by omega
  have hc9 : CZ w9 qb true j2.v t2.v q2.v (pad32 rndB) := by
    have : CZ w8 qb true j2.v t2.v q2.v (pad32 rndB) := by rw [← hqb]; exact hc8
    exact this.keep (hg9.block _ this.lt (fun he => by injection he with he; omega))
  have hca9 : CZ w9 qa false i2.v s2.v p2.v (pad32 rndA) := by
    have : CZ w7 qa false i2.v s2.v p2.v (pad32 rndA) := HC6.out.bel hq7.bel
    exact this.keep (g79.block _ this.lt (fun he => by injection he with he; omega))
  have ncb := hq7.nc (k := k + 1) (by omega)
  have HC9 := Lib.hid (And.intro hca9 hc9)
  have HSB := Lib.hid (hq7.c.grow g79 ncb.1.1 ncb.1.2.1 ncb.1.2.2)
  have HRB := Lib.hid (hq7.r.grow g79 ncb.2.1 ncb.2.2.1 ncb.2.2.2)
  have ne1 : ∀ {a : Option Addr}, (∀ ad, a = some ad → k + 1 < ad.block) → ∀ ad, a = some ad → some ad.block ≠ some (k + 1) := fun h ad ha he => by have := h ad ha; injection he with he; omega
  have HSA9 := Lib.hid ((HSA.out.bel hq7.bel).grow g79 (ne1 Hxa.out.1) (ne1 Hxa.out.2.1) (ne1 Hxa.out.2.2.1))
  have HRA9 := Lib.hid ((HRA.out.bel hq7.bel).grow g79 (ne1 Hxa.out.2.2.2.1) (ne1 Hxa.out.2.2.2.2.1) (ne1 Hxa.out.2.2.2.2.2))
  rw [hqb]
  clear hg8 hc8 hz8 zb8 hg9 hz9 g78 g79 hc9 hca9 ncb hq7 hqb Hsd Hrb HZ6 hk6 hk7 ne1 HSA HRA HC6
  -- both machines
  obtain ⟨X, hX⟩ : ∃ X, w9.drew = X := ⟨_, rfl⟩
  have bX : Below w9.heap.size w9 X := by rw [← hX]; exact (Below.refl _ w9).drew
  have hKX : KT X := (HK.out.below (HZ9.out.bel.trans (bX.mono (Nat.le_of_lt HZ9.out.a.lt))) (by rw [HKk.out]; exact Nat.le_refl _))
  have HZX := Lib.hid (HZ9.out.next bX)
  have HCX := Lib.hid (And.intro (HC9.out.1.bel bX) (HC9.out.2.bel bX))
  have HSAX := Lib.hid (HSA9.out.bel bX)
  have HSBX := Lib.hid (HSB.out.bel bX)
  have HRAX := Lib.hid (HRA9.out.bel bX)
  have HRBX := Lib.hid (HRB.out.bel bX)
  have HKX := Lib.hid hKX
  have lqa := HCX.out.1.lt
  have lqb := HCX.out.2.lt
  have hiA : (Tryd.prog.info? 28).map (·.size) = some (cfc false i2.v s2.v p2.v (pad32 rndA)).length := cfc_sz (pad32_len _)
  have hiB : (Tryd.prog.info? 28).map (·.size) = some (cfc true j2.v t2.v q2.v (pad32 rndB)).length := cfc_sz (pad32_len _)
  have huC := Tryd.underlying28
  clear bX hKX HC9 HZ9 HSA9 HSB HRA9 HRB
  refine wp_region_held_drew (S := fun w' => w'.rangeAt qa 0 (cfc false i2.v s2.v p2.v (pad32 rndA)) ∧ w'.rangeAt qb 0 (cfc true j2.v t2.v q2.v (pad32 rndB))) (by kernel_rfl) (by rw [hX]; exact ⟨HCX.out.1.rng, HCX.out.2.rng⟩) (fun hHeld => ?_)
  rw [hX] at hHeld ⊢
  clear hX
  refine wpAnyH_take (i := 0) rfl (by kernel_rfl) (by kernel_rfl) (by kernel_rfl) (fun _ _ _ h => h) (yieldsIf_load_mid (by rfl) _ _ rfl _ _ rfl _ _ (fun w h => h.1) huC rfl hiA) hHeld ?_
  try simp only [Act.put, List.getElem_toArray, List.getElem_cons_zero, List.setIfInBounds_toArray, List.set_cons_zero, List.set_cons_succ]
  refine wpAnyH_take (i := 2) rfl (by kernel_rfl) (by kernel_rfl) (by kernel_rfl) (fun _ _ _ h => h) (yieldsIf_load_mid (by rfl) _ _ rfl _ _ rfl _ _ (fun w h => h.2) huC rfl hiB) hHeld ?_
  try simp only [Act.put, List.getElem_toArray, List.getElem_cons_succ, List.getElem_cons_zero, List.setIfInBounds_toArray, List.set_cons_zero, List.set_cons_succ]
  refine wpAnyH_ready (rs := [1]) (by kernel_rfl) (by simp) (AllReadyH.cons rfl (fun K hK => ?_) AllReadyH.nil)
  go_simp
  go_at_call 10
  have len1 := BS.len HSAX.out.bi
  have len2 := BS.len HSAX.out.bs
  have len3 := BS.len HSAX.out.bp
  rw [List.length_take] at len1 len2 len3
  refine (gnew_any X false HSAX.out.bi HSAX.out.bs HSAX.out.bp (pad32_len rndA) (by omega) (by omega) (by omega) HKX.out).mono ?_
  rintro x y1 ⟨ga, ra, Aa, rfl, hma, hby, hza⟩
  clear len1 len2 len3
  rw [List.take_take, List.take_take] at hma
  have HMA := Lib.hid hma
  have HBY := Lib.hid hby
  have Hza := Lib.hid hza
  clear hma hby hza
  refine hK.out _ _ ⟨rng_bel HCX.out.1.rng HBY.out lqa, rng_bel HCX.out.2.rng HBY.out lqb⟩ (fun hHeld => ?_)
  clear hK K
  try simp only [Act.put, List.getElem_toArray, List.getElem_cons_succ, List.getElem_cons_zero, List.setIfInBounds_toArray, List.set_cons_zero, List.set_cons_succ]
  refine wpAnyH_ready (rs := [3]) (by kernel_rfl) (by simp) (AllReadyH.cons rfl (fun K hK => ?_) AllReadyH.nil)
  go_simp
  go_at_call 10
  have len1 := BS.len HSBX.out.bi
  have len2 := BS.len HSBX.out.bs
  have len3 := BS.len HSBX.out.bp
  rw [List.length_take] at len1 len2 len3
  have hky : KT y1 := HKX.out.below HBY.out (Nat.le_refl _)
  refine (gnew_any y1 true (HSBX.out.bel HBY.out).bi (HSBX.out.bel HBY.out).bs (HSBX.out.bel HBY.out).bp (pad32_len rndB) (by omega) (by omega) (by omega) hky).mono ?_
  rintro x y2 ⟨gb, rb, Ab, rfl, hmb, hby2, hzb⟩
  clear len1 len2 len3
  rw [List.take_take, List.take_take] at hmb
  have hXY : Below X.heap.size X y2 := btr HBY.out hby2
  have hT : TM y2 ra rb ga gb (newM false (pad32 rndA) (idA.take 64) (secA.take 80) (parA.take 512)) (newM true (pad32 rndB) (idA.take 64) (secA.take 80) (parB.take 512)) Aa Ab := by
    refine ⟨HMA.out.below hby2, hmb, fun j => ?_, Hza.out _ HKX.out.lt, hzb _ hky.lt, hky.below hby2 (Nat.le_refl _)⟩
    by_cases hj : j < y1.heap.size
    · exact .inr (hzb j hj)
    · exact .inl (HMA.out.gp.top j (by omega))
  have zra : ∀ j, j < X.heap.size → ra j = 0 := Hza.out
  have zrb : ∀ j, j < X.heap.size → rb j = 0 := fun j hj => hzb j (by have := HBY.out.size; omega)
  have HT := Lib.hid hT
  have Hzz := Lib.hid (And.intro zra zrb)
  have HXY := Lib.hid hXY
  refine hK.out _ _ ⟨rng_bel HCX.out.1.rng hXY lqa, rng_bel HCX.out.2.rng hXY lqb⟩ (fun hHeld => ?_)
  clear hK K hmb hby2 hzb hky hXY hT zra zrb HMA HBY Hza
  try simp only [Act.put, List.getElem_toArray, List.getElem_cons_succ, List.getElem_cons_zero, List.setIfInBounds_toArray, List.set_cons_zero, List.set_cons_succ]
  refine wpAnyH_take (i := 4) (v := .pointer (some ⟨ga, 0, none⟩)) rfl (by kernel_rfl) (by kernel_rfl) (by kernel_rfl) (fun _ _ _ h => h) (Or.inl ⟨by rfl, fun w h => by go_simp⟩) hHeld ?_
  try simp only [Act.put, List.getElem_toArray, List.getElem_cons_succ, List.getElem_cons_zero, List.setIfInBounds_toArray, List.set_cons_zero, List.set_cons_succ]
  refine wpAnyH_take (i := 5) (v := .pointer (some ⟨gb, 0, none⟩)) rfl (by kernel_rfl) (by kernel_rfl) (by kernel_rfl) (fun _ _ _ h => h) (Or.inl ⟨by rfl, fun w h => by go_simp⟩) hHeld ?_
  try simp only [Act.put, List.getElem_toArray, List.getElem_cons_succ, List.getElem_cons_zero, List.setIfInBounds_toArray, List.set_cons_zero, List.set_cons_succ]
  refine wpAnyH_done (by kernel_rfl) ?_ _
  try simp only [Act.put, List.getElem_toArray, List.getElem_cons_succ, List.getElem_cons_zero]
  clear hHeld huC hiA hiB HCX HSAX HSBX
  obtain ⟨idl, hidl⟩ : ∃ x, idA.take 64 = x := ⟨_, rfl⟩
  obtain ⟨sel, hsel⟩ : ∃ x, secA.take 80 = x := ⟨_, rfl⟩
  obtain ⟨pA, hpA⟩ : ∃ x, parA.take 512 = x := ⟨_, rfl⟩
  obtain ⟨pB, hpB⟩ : ∃ x, parB.take 512 = x := ⟨_, rfl⟩
  have lid : idl.length ≤ 64 := by rw [← hidl, List.length_take]; omega
  have lse0 : sel.length ≤ 80 := by rw [← hsel, List.length_take]; omega
  have lse : sel.length ≤ 1000000 := by omega
  have lpA : pA.length ≤ 512 := by rw [← hpA, List.length_take]; omega
  have lpB : pB.length ≤ 512 := by rw [← hpB, List.length_take]; omega
  have hT : TM y2 ra rb ga gb (newM false (pad32 rndA) idl sel pA) (newM true (pad32 rndB) idl sel pB) Aa Ab := by rw [← hidl, ← hsel, ← hpA, ← hpB]; exact HT.out
  obtain ⟨rA, hrA⟩ : ∃ x, pad32 rndA = x := ⟨_, rfl⟩
  obtain ⟨rB, hrB⟩ : ∃ x, pad32 rndB = x := ⟨_, rfl⟩
  have lrA : rA.length = 32 := by rw [← hrA]; exact pad32_len _
  have lrB : rB.length = 32 := by rw [← hrB]; exact pad32_len _
  rw [hrA, hrB] at hT
  have B0 := Lib.hid (new_bn (rA := rB) (pA := pB) true lrB lid lpB lse)
  have B1 := Lib.hid (bn_cl1 lrA lid lpA lse)
  have B2 := Lib.hid (bn_cl2 lrA lid lpA lse lrB)
  have B3 := Lib.hid (bn_sv2 lrA lid lpA lse lrB lpB)
  have E1 := Lib.hid (sv_1 (rB := rB) (sec := sel) (pB := pB) lrA lid lpA)
  have E2 := Lib.hid (cl_1 (rA := rA) (id := idl) (sec := sel) (pA := pA) lrB)
  have L1 := Lib.hid (hH_len (sec := sel) lrA lid lpA)
  have L2 := Lib.hid (x2_len (rA := rA) (rB := rB) (id := idl) (sec := sel) (pA := pA) lpB)
  have L0 := Lib.hid (show (gmsg 2 rB).length = 36 by rw [gmsg_len, lrB])
  have HLb := Lib.hid lpB
  have hout := gout_any y2 hT.a
  have hout : Calls Tryd.prog 11 #[.pointer (some ⟨ga, 0, none⟩)] y2 fun e w' => ∃ a c cs role' A', e = .returned (.slice a 1 c) ∧ GM w' role' ga (cl1 rA idl sel pA) A' ∧ Kpt y2 w' ra role' ∧ OW w' y2.heap.size 36 2 a 1 c cs ∧ PcOf w' role' y2.heap.size ra [(0, hH rA idl sel pA)] cs ∧ (∀ k, y2.heap.size ≤ k → role' k = 0) := by
    rw [new_cl, out_cl0] at hout; exact hout
  have Hout := Lib.hid hout
  have HT := Lib.hid hT
  clear hidl hsel hpA hpB hrA hrB hT hout lid lse lse0 lpA lpB lrA lrB HRAX HRBX
  go_upto_region 8 with (go_at_call 11; refine Hout.out.mono ?_; rintro x y3 ⟨pa, pc, cs, r3, A3, rfl, hm3, hk3, hO3, hP3, hz3⟩)
  have hpcs := PcS.first HT.out (Kp2.refl y2 ra rb) hm3 hk3 hO3 hP3
  obtain ⟨pb, rfl⟩ : ∃ pb, pa = some ⟨pb, 0, none⟩ := by
    rcases hO3.shape with ⟨_, h, _⟩ | ⟨pb, _, h, _⟩
    · cases h
    · exact ⟨pb, h⟩
  obtain ⟨N0, hN0⟩ : ∃ x, y2.heap.size = x := ⟨_, rfl⟩
  have HS := Lib.hid (show ∃ r A, PcS y2 y3 ra rb r3 r ga gb (cl1 rA idl sel pA) (newM true rB idl sel pB) A3 A y2.heap.size (some ⟨pb, 0, none⟩) 1 pc cs [(0, hH rA idl sel pA)] cs from ⟨rb, Ab, hpcs⟩)
  rw [hN0] at HS
  have HN0 := Lib.hid hN0
  clear hpcs hm3 hk3 hO3 hP3 hz3 Hout HT hN0
  go_loopw [49] (fun s49 wj => (s49 = .int .i64 0 ∧ ∃ r A, PcS y2 wj ra rb r3 r ga gb (cl1 rA idl sel pA) (newM true rB idl sel pB) A3 A N0 (some ⟨pb, 0, none⟩) 1 pc cs [(0, hH rA idl sel pA)] cs) ∨ (s49 = .int .i64 1 ∧ ∃ r A, TM wj r3 r ga gb (cl1 rA idl sel pA) (sv1 rA rB idl sel pA pB) A3 A ∧ Kp2 y2 wj ra rb r3 r)) (fun s49 _ => match s49 with | .int _ x => (1 - x).toNat | _ => 0)
  case atStart => exact .inl ⟨rfl, HS.out⟩
  case round =>
    clear HS
    rcases hrel with ⟨rfl, r, A, h⟩ | ⟨rfl, r, A, hT, hK⟩
    · obtain ⟨a, n, c, cs2, hcs, hn, hnext⟩ := h.next
      obtain ⟨q0, q1⟩ := pcs_cells (J := 0) h.row hcs
      have q0 : wr.cell? ⟨pb, 0, none⟩ = some (.int .i64 0) := q0
      have Hnext := Lib.hid hnext
      have Hn := Lib.hid hn
      clear h hcs hnext hn
      go_upto_region 10 with (refine L_index20 tPc _ _ rfl rfl .i64 _ 0 rfl rfl rfl (by decide) rfl ?_)
      have hI := Hnext.out (wr.alloc (.cells #[.int .i64 0, .slice a n c] 36)) (below_alloc wr _) (heap_alloc_new wr _)
      obtain ⟨w5, hw5⟩ : ∃ x, wr.alloc (.cells #[.int .i64 0, .slice a n c] 36) = x := ⟨_, rfl⟩
      obtain ⟨q, hq⟩ : ∃ q, wr.heap.size = q := ⟨_, rfl⟩
      rw [hw5, hq] at hI
      rw [hw5, hq]
      have k0 : w5.cell? ⟨q, 0, none⟩ = some (.int .i64 0) := hI.c0
      have k1 := hI.c1
      have hh := hI.hearsTo hI.bs B0.out (by have := Hn.out; have := L1.out; omega) 0 E1.out 0 rfl
      have Hh := Lib.hid hh
      clear q0 q1 hI hw5 hq hh Hnext Hn
      go_wp2_with (go_at_call 12; refine Hh.out.mono ?_; rintro y w7 ⟨rfl, r7, A7, hI7, hk7⟩)
      exact ⟨.inr ⟨rfl, r7, A7, hI7.p.tm, hI7.p.kp⟩, by decide⟩
    · obtain ⟨x2, hx2⟩ : ∃ x, gmsg 8 (textS pB) ++ gmsg 20 (hF1 rA rB idl sel pA pB) = x := ⟨_, rfl⟩
      have HX2 := Lib.hid hx2
      have HT := Lib.hid hT
      have HK := Lib.hid hK
      clear hT hK
      go_upto_region 13 with (fail)
      obtain ⟨wz, hwz⟩ : ∃ x, wr.alloc (.cells #[.int .i64 0, .slice none 0 0] 36) = x := ⟨_, rfl⟩
      obtain ⟨qz, hqz⟩ : ∃ x, wr.heap.size = x := ⟨_, rfl⟩
      have hbz : Below wr.heap.size wr wz := by rw [← hwz]; exact below_alloc wr _
      obtain ⟨tz, kz⟩ := HT.out.bel hbz
      have hsz : wz.heap.size = qz + 1 := by rw [← hwz, ← hqz]; simp
      have hqp : QP wz r r3 qz (qz + 1) (.int .i64 0) (.slice none 0 0) := by
        refine ⟨by rw [← hwz, ← hqz]; exact heap_alloc_new wr _, HT.out.b.gp.top _ (by omega), HT.out.a.gp.top _ (by omega), by omega, ?_⟩
        have := HT.out.kt.lt; omega
      have hlow : y2.heap.size ≤ qz := by rw [← hqz]; exact HK.out.size
      have kz2 := ((HK.out.trans kz).swap).swapl
      have hout := gout_any wz tz.b
      have hout : Calls Tryd.prog 11 #[.pointer (some ⟨gb, 0, none⟩)] wz fun e w' => ∃ a c cs role' A', e = .returned (.slice a 2 c) ∧ GM w' role' gb (sv2 rA rB idl sel pA pB) A' ∧ Kpt wz w' r role' ∧ OW w' wz.heap.size 36 2 a 2 c cs ∧ PcOf w' role' wz.heap.size r [(0, gmsg 2 rB), (1, x2)] cs ∧ (∀ k, wz.heap.size ≤ k → role' k = 0) := by
        rw [out_sv1, hx2] at hout; exact hout
      have Hout := Lib.hid hout
      have HT2 := Lib.hid tz.swap
      have HK2 := Lib.hid kz2
      have HQ := Lib.hid hqp
      have HSZ := Lib.hid hsz
      have Hlow := Lib.hid hlow
      rw [hwz, hqz]
      clear hwz hqz hbz tz kz hsz hqp hlow kz2 hout hx2 HT HK
      go_upto_region 14 with (go_at_call 11; refine Hout.out.mono ?_; rintro x y5 ⟨pa, pc2, cs2, r5, A5, rfl, hm5, hk5, hO5, hP5, hz5⟩)
      have hpcs := PcS.first HT2.out HK2.out hm5 hk5 hO5 hP5
      obtain ⟨ob, rfl⟩ : ∃ pb, pa = some ⟨pb, 0, none⟩ := by
        rcases hO5.shape with ⟨_, h, _⟩ | ⟨pb, _, h, _⟩
        · cases h
        · exact ⟨pb, h⟩
      obtain ⟨a0, n0, c0, a1, n1, c1, hcs, ha1⟩ := hP5.two
      have hnq : ∀ ad, a1 = some ad → ad.block ≠ qz := fun ad ha he => ha1 ad ha (by rw [he]; exact HQ.out.q1)
      have hnp : ob ≠ qz := fun he => by have := (hO5.base_le rfl).1; have h2 := HSZ.out; simp at this; omega
      have hqp := (HQ.out.k1 hk5).mono (show qz + 1 ≤ wz.heap.size by have := HSZ.out; omega)
      obtain ⟨N2, hN2⟩ : ∃ x, wz.heap.size = x := ⟨_, rfl⟩
      rw [hN2] at hpcs hqp
      have hqN : qz < N2 := by have := HSZ.out; omega
      have HS := Lib.hid (show (Value.int .i64 0 = .int .i64 0 ∧ ∃ s A, PcS y2 y5 rb ra r5 s gb ga (sv2 rA rB idl sel pA pB) (cl1 rA idl sel pA) A5 A N2 (some ⟨ob, 0, none⟩) 2 pc2 cs2 [(0, gmsg 2 rB), (1, x2)] cs2 ∧ QP y5 r5 s qz N2 (.int .i64 0) (.slice none 0 0)) from ⟨rfl, r3, A3, hpcs, hqp⟩)
      have Hcs := Lib.hid hcs
      have Hnq := Lib.hid hnq
      have Hnp := Lib.hid hnp
      have HqN := Lib.hid hqN
      obtain ⟨kc, hkc⟩ : ∃ K, x2.length - 1 - u % x2.length = K := ⟨_, rfl⟩
      have l2 := L2.out
      rw [HX2.out] at l2
      have hK2 : kc < x2.length := by omega
      have HKK := Lib.hid (And.intro hkc hK2)
      have cpart := cl_part (rA := rA) (rB := rB) (id := idl) (sec := sel) (pA := pA) HLb.out kc (by rw [HX2.out]; exact hK2)
      rw [HX2.out] at cpart
      obtain ⟨cM, hcM⟩ : ∃ x, hearM 1 (x2.take kc) (cl2 rA rB idl sel pA) = x := ⟨_, rfl⟩
      rw [hcM] at cpart
      have B4 := Lib.hid (show Bn cM 4000000000 20000 by rw [← hcM]; exact (B2.out.hear 1 (x2.take kc)).mono (by rw [List.length_take]; omega))
      have HCP := Lib.hid cpart
      have HCM := Lib.hid hcM
      have HL2 := Lib.hid l2
      clear hpcs hm5 hk5 hO5 hP5 hz5 Hout HT2 HK2 HQ HSZ hN2 hqp hcs ha1 hnq hnp hqN hkc l2 hK2 cpart hcM
      go_loopw [63] (fun s63 wj => (s63 = .int .i64 0 ∧ ∃ s A, PcS y2 wj rb ra r5 s gb ga (sv2 rA rB idl sel pA pB) (cl1 rA idl sel pA) A5 A N2 (some ⟨ob, 0, none⟩) 2 pc2 cs2 [(0, gmsg 2 rB), (1, x2)] cs2 ∧ QP wj r5 s qz N2 (.int .i64 0) (.slice none 0 0)) ∨ (s63 = .int .i64 1 ∧ ∃ s A, PcS y2 wj rb ra r5 s gb ga (sv2 rA rB idl sel pA pB) (cl2 rA rB idl sel pA) A5 A N2 (some ⟨ob, 0, none⟩) 2 pc2 cs2 [(1, x2)] [.int .i64 1, .slice a1 n1 c1] ∧ QP wj r5 s qz N2 (.int .i64 0) (.slice none 0 0)) ∨
        (s63 = .int .i64 2 ∧ ∃ s A a n c, TM wj r5 s gb ga (sv2 rA rB idl sel pA pB) cM A5 A ∧ Kp2 y2 wj rb ra r5 s ∧ QP wj r5 s qz N2 (.int .i64 1) (.slice a n c) ∧ BS wj a n c (x2.drop kc))) (fun s63 _ => match s63 with | .int _ x => (2 - x).toNat | _ => 0)
      case atStart => exact .inl HS.out
      case round =>
        clear HS
        rcases hrel with ⟨rfl, s, A, h, hq⟩ | ⟨rfl, s, A, h, hq⟩ | ⟨rfl, s, A, a, n, c, hT, hK, hq, hbs⟩
        · obtain ⟨a, n, c, cs3, hcs3, hn, hnext⟩ := h.next
          obtain ⟨q0, q1⟩ := pcs_cells (J := 0) h.row hcs3
          have q0 : wr.cell? ⟨ob, 0, none⟩ = some (.int .i64 0) := q0
          have Hnext := Lib.hid hnext
          have Hn := Lib.hid hn
          have Hcs3 := Lib.hid hcs3
          have HQ := Lib.hid hq
          clear h hcs3 hnext hn hq
          go_upto_region 16 with (refine L_index20 tPc _ _ rfl rfl .i64 _ 0 rfl rfl rfl (by decide) rfl ?_)
          have hI := Hnext.out (wr.alloc (.cells #[.int .i64 0, .slice a n c] 36)) (below_alloc wr _) (heap_alloc_new wr _)
          have hq := HQ.out.bel (below_alloc wr (.cells #[.int .i64 0, .slice a n c] 36))
          obtain ⟨w5, hw5⟩ : ∃ x, wr.alloc (.cells #[.int .i64 0, .slice a n c] 36) = x := ⟨_, rfl⟩
          obtain ⟨q, hq9⟩ : ∃ q, wr.heap.size = q := ⟨_, rfl⟩
          rw [hw5] at hq
          rw [hw5, hq9] at hI
          rw [hw5, hq9]
          have k0 : w5.cell? ⟨q, 0, none⟩ = some (.int .i64 0) := hI.c0
          have k1 := hI.c1
          have hh := hI.hearsTo hI.bs B1.out (by have := Hn.out; have := L0.out; omega) 0 E2.out 0 rfl
          have Hh := Lib.hid hh
          have HQ5 := Lib.hid hq
          clear q0 q1 hI hw5 hq hh Hnext Hn HQ hq9
          go_wp2_with (go_at_call 12; refine Hh.out.mono ?_; rintro y w7 ⟨rfl, r7, A7, hI7, hk7⟩)
          have e3 : cs3 = [.int .i64 1, .slice a1 n1 c1] := by
            have := Hcs3.out.symm.trans Hcs.out
            exact (List.cons.inj (List.cons.inj this).2).2
          exact ⟨.inr (.inl ⟨rfl, r7, A7, by rw [← e3]; exact hI7.p, HQ5.out.k2 hk7⟩), by decide⟩
        · have hd : cs2.drop 2 = [.int .i64 1, .slice a1 n1 c1] := by rw [Hcs.out]; rfl
          obtain ⟨q0, q1⟩ := pcs_cells (J := 2) h.row hd
          obtain ⟨a, n, c, cs3, hcs3, hn, hnext⟩ := h.next
          obtain ⟨⟨rfl, rfl, rfl⟩, rfl⟩ : (a1 = a ∧ n1 = n ∧ c1 = c) ∧ cs3 = [] := by simpa [eq_comm] using hcs3
          have Hnext := Lib.hid hnext
          have Hn := Lib.hid hn
          have HQ := Lib.hid hq
          have Hd := Lib.hid hd
          clear h hcs3 hnext hn hq hd
          go_upto_region 16 with (refine L_index20 tPc _ _ rfl rfl .i64 _ 1 rfl rfl rfl (by decide) rfl ?_)
          have hI := Hnext.out (wr.alloc (.cells #[.int .i64 1, .slice a1 n1 c1] 36)) (below_alloc wr _) (heap_alloc_new wr _)
          have hq := HQ.out.bel (below_alloc wr (.cells #[.int .i64 1, .slice a1 n1 c1] 36))
          have hqw := HQ.out.lth
          obtain ⟨w5, hw5⟩ : ∃ x, wr.alloc (.cells #[.int .i64 1, .slice a1 n1 c1] 36) = x := ⟨_, rfl⟩
          obtain ⟨q, hq9⟩ : ∃ q, wr.heap.size = q := ⟨_, rfl⟩
          rw [hw5] at hq
          rw [hq9] at hqw
          rw [hw5, hq9] at hI
          rw [hw5, hq9]
          have hqq : q ≠ qz := by omega
          have k0 : w5.cell? ⟨q, 0, none⟩ = some (.int .i64 1) := hI.c0
          have hrg : w5.rangeAt q 0 [.int .i64 1, .slice a1 n1 c1] := rng2 hI.box
          have Hrg := Lib.hid hrg
          have HI := Lib.hid hI
          have HQ5 := Lib.hid hq
          have Hqq := Lib.hid hqq
          clear q0 q1 hI hw5 hq Hnext HQ hq9 hqw hqq hrg
          go_upto_region 18 with (first
            | (refine wpList_load_mid rfl _ _ rfl _ _ rfl _ _ Hrg.out Tryd.underlying36 rfl iPiece ?_)
            | (refine L_storeRow (old := [.int .i64 0, .slice none 0 0]) rfl 36 _ _ rfl rfl rfl HQ5.out.box iPiece rfl rfl (one2 _ _ _ _ _) ?_; intro w6 hz6 hg6))
          have hpa : ∀ a, (some ⟨ob, 0, none⟩ : Option Addr) = some a → a.block ≠ qz := fun a ha => by cases ha; exact Hnp.out
          have hI6 := HI.out.keepq hg6 HQ5.out.q1 HQ5.out.q2 HQ5.out.ne Hlow.out rfl hpa Hqq.out Hnq.out
          have hq6 : QP w6 r5 s qz N2 (.int .i64 1) (.slice a1 n1 c1) := ⟨hz6, HQ5.out.q1, HQ5.out.q2, HQ5.out.lt, HQ5.out.ne⟩
          have HI6 := Lib.hid hI6
          have HQ6 := Lib.hid hq6
          have k1 := hI6.c1
          have hn1 : 0 < n1 := by have := Hn.out; have := HL2.out; omega
          have hn2 : n1 ≤ 1000 := by have := Hn.out; have := HL2.out; omega
          clear hI6 hq6 hg6 hz6 hpa Hrg HI HQ5 k0
          have hne0 : ¬ ((n1 : Int) = 0) := by omega
          have hne1 : ¬ (n1 = 0) := by omega
          go_quiet (fail)
          have hk9 : IntKind.i64.wrap (IntKind.i64.wrap ((n1 : Int) - 1) - (IntKind.i64.wrap (u : Int)).tmod (n1 : Int)) = (kc : Int) := by
            have e1 := HKK.out.1
            rw [← Hn.out] at e1
            have hm : u % n1 < n1 := Nat.mod_lt _ hn1
            rw [IntWalk.i64_in ((n1 : Int) - 1) (by omega), IntWalk.i64_in (u : Int) (by omega), IntWalk.up_tmod (x := u) (y := n1) rfl rfl, IntWalk.i64_in _ (by omega)]
            omega
          rw [hk9]
          go_upto_region 19 with (fail)
          have hKn : kc ≤ n1 := by have := HKK.out.2; rw [← Hn.out] at this; omega
          clear hk9 hne0 hne1 k1
          obtain ⟨V, hV⟩ : ∃ V, (w6.drewN nq).drew = V := ⟨_, rfl⟩
          have hbV : Below w6.heap.size w6 V := by rw [← hV]; exact (below_drewN (Below.refl _ w6) nq).drew
          have HI := Lib.hid (HI6.out.bel hbV)
          have HQV := Lib.hid (HQ6.out.bel hbV)
          obtain ⟨hbm, hrun⟩ := runK_h HI.out.bs .i64 kc hKn
          have Hbm := Lib.hid hbm
          have Hrun := Lib.hid hrun
          clear hbm hrun hbV HI6 HQ6
          refine wp_region_held_drew (S := fun w' => w'.heap[q]? = some (.cells #[.int .i64 1, .slice a1 n1 c1] 36 (0, 0))) (by kernel_rfl) (by rw [hV]; exact HI.out.box) (fun hHeld => ?_)
          rw [hV] at hHeld ⊢
          refine wpAnyH_take (i := 0) (v := .pointer (some ⟨ga, 0, none⟩)) rfl (by kernel_rfl) (by kernel_rfl) (by kernel_rfl) (fun _ _ _ h => h) (Or.inl ⟨by rfl, fun w h => by go_simp⟩) hHeld ?_
          try simp only [Act.put, List.getElem_toArray, List.getElem_cons_zero, List.setIfInBounds_toArray, List.set_cons_zero, List.set_cons_succ]
          refine wpAnyH_take (i := 1) (v := .pointer (some ⟨q, 0, none⟩)) rfl (by kernel_rfl) (by kernel_rfl) (by kernel_rfl) (fun _ _ _ h => h) (Or.inl ⟨by rfl, fun w h => by go_simp⟩) hHeld ?_
          try simp only [Act.put, List.getElem_toArray, List.getElem_cons_succ, List.getElem_cons_zero, List.setIfInBounds_toArray, List.set_cons_zero, List.set_cons_succ]
          refine wpAnyH_take (i := 2) (v := .int .i64 1) rfl (by kernel_rfl) (by kernel_rfl) (by kernel_rfl) (fun _ _ _ h => h) (Or.inl ⟨by rfl, fun w h => by have h2 : w.cell? ⟨q, 0, none⟩ = some (.int .i64 1) := (by simp [World.cell?, h]); go_simp⟩) hHeld ?_
          try simp only [Act.put, List.getElem_toArray, List.getElem_cons_succ, List.getElem_cons_zero, List.setIfInBounds_toArray, List.set_cons_zero, List.set_cons_succ]
          refine wpAnyH_take (i := 3) (v := .pointer (some ⟨q, 1, none⟩)) rfl (by kernel_rfl) (by kernel_rfl) (by kernel_rfl) (fun _ _ _ h => h) (Or.inl ⟨by rfl, fun w h => by go_simp⟩) hHeld ?_
          try simp only [Act.put, List.getElem_toArray, List.getElem_cons_succ, List.getElem_cons_zero, List.setIfInBounds_toArray, List.set_cons_zero, List.set_cons_succ]
          refine wpAnyH_take (i := 4) (v := .slice a1 n1 c1) rfl (by kernel_rfl) (by kernel_rfl) (by kernel_rfl) (fun _ _ _ h => h) (Or.inl ⟨by rfl, fun w h => by have h2 : w.cell? ⟨q, 1, none⟩ = some (.slice a1 n1 c1) := (by simp [World.cell?, h]); go_simp⟩) hHeld ?_
          try simp only [Act.put, List.getElem_toArray, List.getElem_cons_succ, List.getElem_cons_zero, List.setIfInBounds_toArray, List.set_cons_zero, List.set_cons_succ]
          refine wpAnyH_take (i := 5) (v := .int .i64 (kc : Int)) rfl (by kernel_rfl) (by kernel_rfl) (by kernel_rfl) (fun _ _ _ h => h) (Or.inl ⟨by rfl, fun w h => by go_simp⟩) hHeld ?_
          try simp only [Act.put, List.getElem_toArray, List.getElem_cons_succ, List.getElem_cons_zero, List.setIfInBounds_toArray, List.set_cons_zero, List.set_cons_succ]
          refine wpAnyH_take (i := 6) (v := .slice a1 kc c1) rfl (by kernel_rfl) (by kernel_rfl) (by kernel_rfl) (fun _ _ _ h => h) (Or.inl ⟨by rfl, fun w h => by have h2 := Hrun.out w; go_simp⟩) hHeld ?_
          try simp only [Act.put, List.getElem_toArray, List.getElem_cons_succ, List.getElem_cons_zero, List.setIfInBounds_toArray, List.set_cons_zero, List.set_cons_succ]
          refine wpAnyH_ready (rs := [7]) (by kernel_rfl) (by simp) (AllReadyH.cons rfl (fun K hK => ?_) AllReadyH.nil)
          go_simp
          go_at_call 12
          refine (HI.out.hears Hbm.out B2.out (by have h1 := HL2.out.1; have h2 := Hn.out; omega) 1).mono ?_
          rintro y v7 ⟨rfl, r7, A7, hI7, hk7⟩
          have hq7 := HQV.out.k2 hk7
          rw [HCM.out] at hI7 ⊢
          refine hK.out _ _ hI7.box (fun hHeld => ?_)
          clear hK hk7
          try simp only [Act.put, List.getElem_toArray, List.getElem_cons_succ, List.getElem_cons_zero, List.setIfInBounds_toArray, List.set_cons_zero, List.set_cons_succ]
          obtain ⟨wn, hwn⟩ : ∃ wn, cM.wrong = wn := ⟨_, rfl⟩
          rw [hwn]
          have HI7 := Lib.hid hI7
          have HQ7 := Lib.hid hq7
          clear hI7 hq7 hwn HI HQV hV Hbm Hrun
          refine wpAnyH_done (by kernel_rfl) ?_ _
          try simp only [Act.put, List.getElem_toArray, List.getElem_cons_succ, List.getElem_cons_zero]
          clear hHeld
          have hdn := gdone_any v7 HI7.out.p.tm.b
          rw [HCP.out.1] at hdn
          have Hdn := Lib.hid hdn
          have b7 := Lib.hid HI7.out.bs
          have k1 := HI7.out.c1
          have qf := HQ7.out.fr 1
          have qc := HQ7.out.c1
          clear hdn
          go_wp2_with (first
            | (go_at_call 13; (with_reducible refine Hdn.out.mono ?_); rintro x v8 ⟨rfl, rfl⟩)
            | (refine L_slice_l tB b7.out kc _ _ rfl rfl .i64 _ rfl rfl rfl hKn ?_; intro a9 ha0 ha9 hb9))
          have hb3 : BS v8 a9 (n1 - kc) (c1 - kc) (x2.drop kc) := by
            have h := hb9
            rw [Nat.mul_one, ← List.map_drop] at h
            exact h
          have hbl : ∀ a, a9 = some a → a.block ≠ qz := fun a h1 => by obtain ⟨a0, h2, h3⟩ := ha9 a h1; rw [h3]; exact Hnq.out a0 h2
          have hpa : ∀ a, (some ⟨ob, 0, none⟩ : Option Addr) = some a → a.block ≠ qz := fun a ha => by cases ha; exact Hnp.out
          have hp9 := HI7.out.p.keepq (grownBy_setCell v8 ⟨qz, 1, none⟩ (.slice a9 (n1 - kc) (c1 - kc))) HQ7.out.q1 HQ7.out.q2 HQ7.out.ne Hlow.out rfl hpa
          exact ⟨.inr (.inr ⟨rfl, r7, A7, a9, n1 - kc, c1 - kc, hp9.tm, hp9.kp, HQ7.out.s1 _, RS.setOther hb3 (fun y hy => hbl y hy) _⟩), by decide⟩
        · have hh := hT.hearsTo hbs B4.out (by have h1 := HL2.out.1; have h2 := BS.len hbs; rw [List.length_drop] at h2; omega) 1 HCP.out.2 0 rfl
          have Hh := Lib.hid hh
          have HQ := Lib.hid hq
          have HK := Lib.hid hK
          have q0 := hq.c0
          have q1 := hq.c1
          clear hT hK hq hbs hh
          go_upto_region 27 with (first
            | (go_at_call 12; (with_reducible refine Hh.out.mono ?_); rintro x w1 ⟨rfl, s1, A1, t1, kp1⟩; have hd1 : Calls Tryd.prog 13 #[.pointer (some ⟨ga, 0, none⟩)] w1 (fun e w' => e = .returned (.bool true) ∧ w' = w1) := gdone_any w1 t1.b; have hd2 : Calls Tryd.prog 13 #[.pointer (some ⟨gb, 0, none⟩)] w1 (fun e w' => e = .returned (.bool false) ∧ w' = w1) := gdone_any w1 t1.a)
            | (go_at_call 13; (with_reducible refine hd1.mono ?_); rintro x w2 ⟨rfl, rfl⟩)
            | (go_at_call 13; (with_reducible refine hd2.mono ?_); rintro x w3 ⟨rfl, rfl⟩))
          have ts := t1.swap
          have ks := ((HK.out.trans kp1).swap).swapl
          clear hd1 hd2 t1 kp1 q0 q1 Hh HQ HK
          obtain ⟨Y, hY⟩ : ∃ Y, w3 = Y := ⟨_, rfl⟩
          rw [hY] at ts ks ⊢
          clear hY
          obtain ⟨x3, hx3⟩ : ∃ x, gmsg 20 (hF2 rA rB idl sel pA pB) = x := ⟨_, rfl⟩
          have hout := gout_any Y ts.a
          have hout : Calls Tryd.prog 11 #[.pointer (some ⟨ga, 0, none⟩)] Y fun e w' => ∃ a c cs role' A', e = .returned (.slice a 1 c) ∧ GM w' role' ga (cl4 rA rB idl sel pA pB) A' ∧ Kpt Y w' s1 role' ∧ OW w' Y.heap.size 36 2 a 1 c cs ∧ PcOf w' role' Y.heap.size s1 [(1, x3)] cs ∧ (∀ k, Y.heap.size ≤ k → role' k = 0) := by
            rw [out_cl3, hx3] at hout; exact hout
          have Hout := Lib.hid hout
          have HT := Lib.hid ts
          have HK := Lib.hid ks
          have lx3 : x3.length = 36 := by rw [← hx3]; exact x3_len
          obtain ⟨kd, hkd⟩ : ∃ K, 36 - 1 - u % 36 = K := ⟨_, rfl⟩
          have hkd2 : kd < 36 := by omega
          have spart := sv_part (rA := rA) (rB := rB) (id := idl) (sec := sel) (pA := pA) (pB := pB) kd hkd2
          rw [hx3] at spart
          obtain ⟨sM, hsM⟩ : ∃ x, hearM 1 (x3.take kd) (sv2 rA rB idl sel pA pB) = x := ⟨_, rfl⟩
          rw [hsM] at spart
          have B5 := Lib.hid (show Bn sM 4000000000 20000 by rw [← hsM]; exact (B3.out.hear 1 (x3.take kd)).mono (by rw [List.length_take]; omega))
          have HSP := Lib.hid spart
          have HSM := Lib.hid hsM
          have HKD := Lib.hid (And.intro hkd hkd2)
          have L3 := Lib.hid lx3
          clear hout ts ks lx3 hkd hkd2 spart hsM hx3
          go_upto_region 28 with (go_at_call 11; refine Hout.out.mono ?_; rintro x y6 ⟨pa, pc3, cs4, r6, A6, rfl, hm6, hk6, hO6, hP6, hz6⟩)
          have hpcs := PcS.first HT.out HK.out hm6 hk6 hO6 hP6
          obtain ⟨oc, rfl⟩ : ∃ pb, pa = some ⟨pb, 0, none⟩ := by
            rcases hO6.shape with ⟨_, h, _⟩ | ⟨pb, _, h, _⟩
            · cases h
            · exact ⟨pb, h⟩
          obtain ⟨N3, hN3⟩ : ∃ x, Y.heap.size = x := ⟨_, rfl⟩
          rw [hN3] at hpcs
          have HS := Lib.hid (show ∃ r A, PcS y2 y6 ra rb r6 r ga gb (cl4 rA rB idl sel pA pB) (sv2 rA rB idl sel pA pB) A6 A N3 (some ⟨oc, 0, none⟩) 1 pc3 cs4 [(1, x3)] cs4 from ⟨_, _, hpcs⟩)
          clear hpcs hm6 hk6 hO6 hP6 hz6 Hout HT hN3 HK
          go_loopw [123] (fun s123 wj => (s123 = .int .i64 0 ∧ ∃ r A, PcS y2 wj ra rb r6 r ga gb (cl4 rA rB idl sel pA pB) (sv2 rA rB idl sel pA pB) A6 A N3 (some ⟨oc, 0, none⟩) 1 pc3 cs4 [(1, x3)] cs4) ∨ (s123 = .int .i64 1 ∧ ∃ r A, TM wj r6 r ga gb (cl4 rA rB idl sel pA pB) (sv3 rA rB idl sel pA pB) A6 A ∧ Kp2 y2 wj ra rb r6 r)) (fun s123 _ => match s123 with | .int _ x => (1 - x).toNat | _ => 0)
          case atStart => exact .inl ⟨rfl, HS.out⟩
          case round =>
            clear HS
            rcases hrel with ⟨rfl, r, A, h⟩ | ⟨rfl, r, A, hT, hK⟩
            · obtain ⟨a, n, c, cs5, hcs, hn, hnext⟩ := h.next
              obtain ⟨q0, q1⟩ := pcs_cells (J := 0) h.row hcs
              have q0 : wr.cell? ⟨oc, 0, none⟩ = some (.int .i64 1) := q0
              have Hnext := Lib.hid hnext
              have hn36 : n = 36 := by rw [hn]; exact L3.out
              clear hn
              subst hn36
              clear h hcs hnext
              go_upto_region 30 with (refine L_index20 tPc _ _ rfl rfl .i64 _ 0 rfl rfl rfl (by decide) rfl ?_)
              have hI := Hnext.out (wr.alloc (.cells #[.int .i64 1, .slice a 36 c] 36)) (below_alloc wr _) (heap_alloc_new wr _)
              obtain ⟨w5, hw5⟩ : ∃ x, wr.alloc (.cells #[.int .i64 1, .slice a 36 c] 36) = x := ⟨_, rfl⟩
              obtain ⟨q, hq⟩ : ∃ q, wr.heap.size = q := ⟨_, rfl⟩
              rw [hw5, hq] at hI
              rw [hw5, hq]
              have k1 := hI.c1
              have HI := Lib.hid hI
              clear q0 q1 hI hw5 Hnext hq
              go_quiet (fail)
              have hk9 : (35 : Int) - (u : Int) % 36 = (kd : Int) := by have e1 := HKD.out.1; omega
              rw [hk9]
              go_upto_region 31 with (fail)
              clear hk9 k1
              have hkn : kd ≤ 36 := Nat.le_of_lt HKD.out.2
              obtain ⟨V, hV⟩ : ∃ V, (w5.drewN nq).drew = V := ⟨_, rfl⟩
              have hbV : Below w5.heap.size w5 V := by rw [← hV]; exact (below_drewN (Below.refl _ w5) nq).drew
              have HIV := Lib.hid (HI.out.bel hbV)
              obtain ⟨hbm, hrun⟩ := runK_h HIV.out.bs .i64 kd hkn
              have Hbm := Lib.hid hbm
              have Hrun := Lib.hid hrun
              obtain ⟨al, hbl, hrunl⟩ := runK_l HIV.out.bs .i64 kd hkn
              have Hrunl := Lib.hid hrunl
              clear hbm hrun hbV hbl hrunl HI
              refine wp_region_held_drew (S := fun w' => w'.heap[q]? = some (.cells #[.int .i64 1, .slice a 36 c] 36 (0, 0))) (by kernel_rfl) (by rw [hV]; exact HIV.out.box) (fun hHeld => ?_)
              rw [hV] at hHeld ⊢
              refine wpAnyH_take (i := 0) (v := .pointer (some ⟨gb, 0, none⟩)) rfl (by kernel_rfl) (by kernel_rfl) (by kernel_rfl) (fun _ _ _ h => h) (Or.inl ⟨by rfl, fun w h => by go_simp⟩) hHeld ?_
              try simp only [Act.put, List.getElem_toArray, List.getElem_cons_zero, List.setIfInBounds_toArray, List.set_cons_zero, List.set_cons_succ]
              refine wpAnyH_take (i := 1) (v := .pointer (some ⟨q, 0, none⟩)) rfl (by kernel_rfl) (by kernel_rfl) (by kernel_rfl) (fun _ _ _ h => h) (Or.inl ⟨by rfl, fun w h => by go_simp⟩) hHeld ?_
              try simp only [Act.put, List.getElem_toArray, List.getElem_cons_succ, List.getElem_cons_zero, List.setIfInBounds_toArray, List.set_cons_zero, List.set_cons_succ]
              refine wpAnyH_take (i := 2) (v := .int .i64 1) rfl (by kernel_rfl) (by kernel_rfl) (by kernel_rfl) (fun _ _ _ h => h) (Or.inl ⟨by rfl, fun w h => by have h2 : w.cell? ⟨q, 0, none⟩ = some (.int .i64 1) := (by simp [World.cell?, h]); go_simp⟩) hHeld ?_
              try simp only [Act.put, List.getElem_toArray, List.getElem_cons_succ, List.getElem_cons_zero, List.setIfInBounds_toArray, List.set_cons_zero, List.set_cons_succ]
              refine wpAnyH_take (i := 3) (v := .pointer (some ⟨q, 1, none⟩)) rfl (by kernel_rfl) (by kernel_rfl) (by kernel_rfl) (fun _ _ _ h => h) (Or.inl ⟨by rfl, fun w h => by go_simp⟩) hHeld ?_
              try simp only [Act.put, List.getElem_toArray, List.getElem_cons_succ, List.getElem_cons_zero, List.setIfInBounds_toArray, List.set_cons_zero, List.set_cons_succ]
              refine wpAnyH_take (i := 4) (v := .slice a 36 c) rfl (by kernel_rfl) (by kernel_rfl) (by kernel_rfl) (fun _ _ _ h => h) (Or.inl ⟨by rfl, fun w h => by have h2 : w.cell? ⟨q, 1, none⟩ = some (.slice a 36 c) := (by simp [World.cell?, h]); go_simp⟩) hHeld ?_
              try simp only [Act.put, List.getElem_toArray, List.getElem_cons_succ, List.getElem_cons_zero, List.setIfInBounds_toArray, List.set_cons_zero, List.set_cons_succ]
              refine wpAnyH_take (i := 5) (v := .int .i64 (kd : Int)) rfl (by kernel_rfl) (by kernel_rfl) (by kernel_rfl) (fun _ _ _ h => h) (Or.inl ⟨by rfl, fun w h => by go_simp⟩) hHeld ?_
              try simp only [Act.put, List.getElem_toArray, List.getElem_cons_succ, List.getElem_cons_zero, List.setIfInBounds_toArray, List.set_cons_zero, List.set_cons_succ]
              refine wpAnyH_take (i := 6) (v := .slice a kd c) rfl (by kernel_rfl) (by kernel_rfl) (by kernel_rfl) (fun _ _ _ h => h) (Or.inl ⟨by rfl, fun w h => by have h2 := Hrun.out w; go_simp⟩) hHeld ?_
              try simp only [Act.put, List.getElem_toArray, List.getElem_cons_succ, List.getElem_cons_zero, List.setIfInBounds_toArray, List.set_cons_zero, List.set_cons_succ]
              refine wpAnyH_ready (rs := [7]) (by kernel_rfl) (by simp) (AllReadyH.cons rfl (fun K hK => ?_) AllReadyH.nil)
              go_simp
              go_at_call 12
              refine (HIV.out.hearsTo Hbm.out B3.out (by omega) 1 HSM.out 0 (by rw [HSP.out.2.1]; rfl)).mono ?_
              rintro y v7 ⟨rfl, r7, A7, hI7, hk7⟩
              refine hK.out _ _ hI7.box (fun hHeld => ?_)
              clear hK K hk7
              have HI7 := Lib.hid hI7
              clear hI7
              try simp only [Act.put, List.getElem_toArray, List.getElem_cons_succ, List.getElem_cons_zero, List.setIfInBounds_toArray, List.set_cons_zero, List.set_cons_succ]
              refine wpAnyH_take (i := 8) (v := .bool false) rfl (by kernel_rfl) (by kernel_rfl) (by kernel_rfl) (fun _ _ _ h => h) (Or.inl ⟨by rfl, fun w h => by go_simp⟩) hHeld ?_
              try simp only [Act.put, List.getElem_toArray, List.getElem_cons_succ, List.getElem_cons_zero, List.setIfInBounds_toArray, List.set_cons_zero, List.set_cons_succ]
              refine wpAnyH_take (i := 9) (v := .bool false) rfl (by kernel_rfl) (by kernel_rfl) (by kernel_rfl) (fun _ _ _ h => h) (Or.inl ⟨by rfl, fun w h => by go_simp⟩) hHeld ?_
              try simp only [Act.put, List.getElem_toArray, List.getElem_cons_succ, List.getElem_cons_zero, List.setIfInBounds_toArray, List.set_cons_zero, List.set_cons_succ]
              refine wpAnyH_take (i := 10) (v := .pointer (some ⟨gb, 0, none⟩)) rfl (by kernel_rfl) (by kernel_rfl) (by kernel_rfl) (fun _ _ _ h => h) (Or.inl ⟨by rfl, fun w h => by go_simp⟩) hHeld ?_
              try simp only [Act.put, List.getElem_toArray, List.getElem_cons_succ, List.getElem_cons_zero, List.setIfInBounds_toArray, List.set_cons_zero, List.set_cons_succ]
              refine wpAnyH_ready (rs := [11]) (by kernel_rfl) (by simp) (AllReadyH.cons rfl (fun K hK => ?_) AllReadyH.nil)
              go_simp
              go_at_call 13
              have hd := gdone_any v7 HI7.out.p.tm.b
              rw [HSP.out.1] at hd
              refine hd.mono ?_
              rintro y v8 ⟨rfl, h8⟩
              clear hd
              have HI8 := Lib.hid (show InS y2 v8 ra rb r6 r7 ga gb (cl4 rA rB idl sel pA pB) sM A6 A7 N3 (some ⟨oc, 0, none⟩) 1 pc3 cs4 [] cs5 q 1 a 36 c x3 by rw [h8]; exact HI7.out)
              clear h8 HI7
              refine hK.out _ _ HI8.out.box (fun hHeld => ?_)
              clear hK K
              try simp only [Act.put, List.getElem_toArray, List.getElem_cons_succ, List.getElem_cons_zero, List.setIfInBounds_toArray, List.set_cons_zero, List.set_cons_succ]
              refine wpAnyH_take (i := 12) (v := .bool false) rfl (by kernel_rfl) (by kernel_rfl) (by kernel_rfl) (fun _ _ _ h => h) (Or.inl ⟨by rfl, fun w h => by go_simp⟩) hHeld ?_
              try simp only [Act.put, List.getElem_toArray, List.getElem_cons_succ, List.getElem_cons_zero, List.setIfInBounds_toArray, List.set_cons_zero, List.set_cons_succ]
              refine wpAnyH_take (i := 13) (v := .bool false) rfl (by kernel_rfl) (by kernel_rfl) (by kernel_rfl) (fun _ _ _ h => h) (Or.inl ⟨by rfl, fun w h => by go_simp⟩) hHeld ?_
              try simp only [Act.put, List.getElem_toArray, List.getElem_cons_succ, List.getElem_cons_zero, List.setIfInBounds_toArray, List.set_cons_zero, List.set_cons_succ]
              refine wpAnyH_take (i := 14) (v := .pointer (some ⟨gb, 0, none⟩)) rfl (by kernel_rfl) (by kernel_rfl) (by kernel_rfl) (fun _ _ _ h => h) (Or.inl ⟨by rfl, fun w h => by go_simp⟩) hHeld ?_
              try simp only [Act.put, List.getElem_toArray, List.getElem_cons_succ, List.getElem_cons_zero, List.setIfInBounds_toArray, List.set_cons_zero, List.set_cons_succ]
              refine wpAnyH_take (i := 15) (v := .pointer (some ⟨q, 0, none⟩)) rfl (by kernel_rfl) (by kernel_rfl) (by kernel_rfl) (fun _ _ _ h => h) (Or.inl ⟨by rfl, fun w h => by go_simp⟩) hHeld ?_
              try simp only [Act.put, List.getElem_toArray, List.getElem_cons_succ, List.getElem_cons_zero, List.setIfInBounds_toArray, List.set_cons_zero, List.set_cons_succ]
              refine wpAnyH_take (i := 16) (v := .int .i64 1) rfl (by kernel_rfl) (by kernel_rfl) (by kernel_rfl) (fun _ _ _ h => h) (Or.inl ⟨by rfl, fun w h => by have h2 : w.cell? ⟨q, 0, none⟩ = some (.int .i64 1) := (by simp [World.cell?, h]); go_simp⟩) hHeld ?_
              try simp only [Act.put, List.getElem_toArray, List.getElem_cons_succ, List.getElem_cons_zero, List.setIfInBounds_toArray, List.set_cons_zero, List.set_cons_succ]
              refine wpAnyH_take (i := 17) (v := .pointer (some ⟨q, 1, none⟩)) rfl (by kernel_rfl) (by kernel_rfl) (by kernel_rfl) (fun _ _ _ h => h) (Or.inl ⟨by rfl, fun w h => by go_simp⟩) hHeld ?_
              try simp only [Act.put, List.getElem_toArray, List.getElem_cons_succ, List.getElem_cons_zero, List.setIfInBounds_toArray, List.set_cons_zero, List.set_cons_succ]
              refine wpAnyH_take (i := 18) (v := .slice a 36 c) rfl (by kernel_rfl) (by kernel_rfl) (by kernel_rfl) (fun _ _ _ h => h) (Or.inl ⟨by rfl, fun w h => by have h2 : w.cell? ⟨q, 1, none⟩ = some (.slice a 36 c) := (by simp [World.cell?, h]); go_simp⟩) hHeld ?_
              try simp only [Act.put, List.getElem_toArray, List.getElem_cons_succ, List.getElem_cons_zero, List.setIfInBounds_toArray, List.set_cons_zero, List.set_cons_succ]
              refine wpAnyH_take (i := 19) (v := .int .i64 (kd : Int)) rfl (by kernel_rfl) (by kernel_rfl) (by kernel_rfl) (fun _ _ _ h => h) (Or.inl ⟨by rfl, fun w h => by go_simp⟩) hHeld ?_
              try simp only [Act.put, List.getElem_toArray, List.getElem_cons_succ, List.getElem_cons_zero, List.setIfInBounds_toArray, List.set_cons_zero, List.set_cons_succ]
              refine wpAnyH_take (i := 20) (v := .slice al (36 - kd) (c - kd)) rfl (by kernel_rfl) (by kernel_rfl) (by kernel_rfl) (fun _ _ _ h => h) (Or.inl ⟨by rfl, fun w h => by have h2 := Hrunl.out w; go_simp⟩) hHeld ?_
              try simp only [Act.put, List.getElem_toArray, List.getElem_cons_succ, List.getElem_cons_zero, List.setIfInBounds_toArray, List.set_cons_zero, List.set_cons_succ]
              refine wpAnyH_ready (rs := [21]) (by kernel_rfl) (by simp) (AllReadyH.cons rfl (fun K hK => ?_) AllReadyH.nil)
              go_simp
              go_at_call 12
              obtain ⟨al2, hbl, hrunl⟩ := runK_l HI8.out.bs .i64 kd hkn
              obtain rfl : al2 = al := by
                have e1 := hrunl V
                have e2 := Hrunl.out V
                rw [e1] at e2
                simpa using e2
              refine (HI8.out.hearsTo hbl B5.out (by omega) 1 HSP.out.2.2 0 rfl).mono ?_
              rintro y v9 ⟨rfl, r9, A9, hI9, hk9⟩
              refine hK.out _ _ hI9.box (fun hHeld => ?_)
              clear hK K hk9 hbl hrunl
              have HI9 := Lib.hid hI9
              clear hI9
              try simp only [Act.put, List.getElem_toArray, List.getElem_cons_succ, List.getElem_cons_zero, List.setIfInBounds_toArray, List.set_cons_zero, List.set_cons_succ]
              refine wpAnyH_take (i := 22) (v := .bool false) rfl (by kernel_rfl) (by kernel_rfl) (by kernel_rfl) (fun _ _ _ h => h) (Or.inl ⟨by rfl, fun w h => by go_simp⟩) hHeld ?_
              try simp only [Act.put, List.getElem_toArray, List.getElem_cons_succ, List.getElem_cons_zero, List.setIfInBounds_toArray, List.set_cons_zero, List.set_cons_succ]
              refine wpAnyH_take (i := 23) (v := .bool false) rfl (by kernel_rfl) (by kernel_rfl) (by kernel_rfl) (fun _ _ _ h => h) (Or.inl ⟨by rfl, fun w h => by go_simp⟩) hHeld ?_
              try simp only [Act.put, List.getElem_toArray, List.getElem_cons_succ, List.getElem_cons_zero, List.setIfInBounds_toArray, List.set_cons_zero, List.set_cons_succ]
              refine wpAnyH_done (by kernel_rfl) ?_ _
              try simp only [Act.put, List.getElem_toArray, List.getElem_cons_succ, List.getElem_cons_zero]
              clear hHeld
              go_wp2
              exact ⟨.inr ⟨rfl, r9, A9, HI9.out.p.tm, HI9.out.p.kp⟩, by decide⟩
            · have hd1 : Calls Tryd.prog 13 #[.pointer (some ⟨gb, 0, none⟩)] wr (fun e w' => e = .returned (.bool true) ∧ w' = wr) := gdone_any wr hT.b
              have Hd1 := Lib.hid hd1
              have bX := hK.below HXY.out HXY.out.size Hzz.out.1 Hzz.out.2
              have HbX := Lib.hid bX
              clear hd1 bX hT hK
              go_wp2_with (go_at_call 13; (with_reducible refine Hd1.out.mono ?_); rintro x w9 ⟨rfl, rfl⟩)
              go_ret
              refine ⟨rfl, ?_⟩
              rw [HKk.out]
              exact HZX.out.bel.trans (HbX.out.mono (Nat.le_of_lt HZX.out.a.lt))
end Go.Proofs.YtkhcpnmbhbhcgaaDoor
