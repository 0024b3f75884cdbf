/- quilt: Take of the one patch, whole. -/
import Derived.Test.YteekafpkbdbadaaQY
import Derived.Test.YteekafpkbdbadaaOT
set_option maxRecDepth 100000
set_option linter.unusedVariables false
namespace Go.Proofs.Yteekafpkbdbadaa.Pi
open Go.RowKit
theorem max2i (W : World) (ts : Array TypeId) (t : TypeId) (a b : Nat) : (Builtin.max_ ts t #[.int .i64 (a : Int), .int .i64 (b : Int)]).run Try.prog W = .ok (.int .i64 ((max a b : Nat) : Int)) W := by
  have : (Builtin.max_ ts t #[.int .i64 (a : Int), .int .i64 (b : Int)]).run Try.prog W = .ok (.int .i64 (if (a : Int) < (b : Int) then (b : Int) else (a : Int))) W := by
    simp [Builtin.max_, Builtin.max2]
  rw [this]
  congr 2
  split <;> omega
/-- s[i:], as it runs -/
theorem runS_l {P : Program} {t e : TypeId} {zero : Value} {z bytes : Nat} (ty : STy P t e zero z bytes) (W : World) (a : Option Addr) (n c i : Nat) (h1 : i ≤ n) (h2 : n ≤ c) : (Instr.sliceAt t (.slice a n c) (some (.int .i64 (i : Int))) none none).run P W = .ok (sliced a i n c z) W := by
  rw [run_sliceAt_slice W t _ _ _ _ ty.und', run_slice_l W t a n c ty.und' .i64 _ (by omega) (by omega), ty.sizeOf]
  simp [Result.andThen]
theorem S_store1 {w : World} {g : Nat} {ops : Array Oper} {o : Oper} {f : Act} {K : Act → World → Prop} {Q : Exit → Act → World → Prop} {E : Prop} (hgd : o.guard = none) (t : TypeId) (x y : Operand) (ho : o.op = .store t x y) {i : Nat} {t' : TypeId} {l : List Value} {v : Value} (h : CR w g t' l) (hx : f.eval x = .pointer (some ⟨g, i, none⟩)) (hy : f.eval y = v)
    (hi : (Try.prog.info? t).map (·.size) = some 1) (hl : i < l.length) (h1 : v.oneCell' = true)
    (hK : ∀ w', CR w' g t' (l.set i v) → w.grownBy w' (some g) → K (f.put o.dst undef) w') : if Region.wanted o (yielded ops f.tmps) = true then Oper.wp Try.prog o f w K Q else E := by
  rw [if_pos (by simp [Region.wanted, hgd])]
  unfold Oper.wp execOp
  simp only [ho, hx, hy, Instr.storeAt, Instr.sureAddr, Sem.run_bind, Sem.run_pure, Result.andThen_ok, run_store1 w g i t v (h.there1 i hl) hi h1]
  exact hK _ (h.set i v) (grown_set w g i v)
theorem quz_taken {w : World} {role : Nat → Nat} {r qb bD of cD n : Nat} {SV : Value} {l : List Value} (hr : role qb = r + 10) (rD : role bD = r + 11) (hrow : CR w qb 111 [SV, u64 n, u64 n, u64 n, .bool true]) (hSV : sliced (some ⟨bD, of, none⟩) 1 1 cD 2 = SV) (hbk : CR w bD 113 l) (hl : of + cD * 2 ≤ l.length) (hcm : 1 ≤ cD ∧ cD ≤ maxLen) (h0 : 0 < n) : QuZ w role r qb ⟨[], n, n, n, true⟩ := by
  have hb : w.heap[bD]? = some (.cells l.toArray 113 (0, 0)) := hbk
  refine ⟨⟨if cD = 1 then some ⟨bD, of, none⟩ else some ⟨bD, of + 2, none⟩, 0, cD - 1⟩, [], ⟨?_, hr⟩, ⟨⟨rfl, Nat.zero_le _, by show cD - 1 ≤ maxLen; omega, (fun v hv => by cases hv), (fun hh => ?_), fun ad had => ⟨fun _ => ?_, fun j v hv => by simp at hv⟩⟩, fun ad had => ?_, fun ad had => ?_⟩, .nil, fun hh => absurd hh (by show ¬ n = 0; omega)⟩
  · have : SA.v ⟨if cD = 1 then some ⟨bD, of, none⟩ else some ⟨bD, of + 2, none⟩, 0, cD - 1⟩ = SV := by
      rw [← hSV]
      unfold SA.v sliced
      simp only [Nat.sub_self]
      by_cases h : cD = 1
      · simp [h]
      · simp [h, Addr.add]
    rw [this]
    exact hrow
  · dsimp only at hh
    split at hh <;> cases hh
  · dsimp only at had
    split at had <;> (cases had; rfl)
  · dsimp only at had
    split at had <;> (cases had; exact rD)
  · dsimp only at had
    split at had
    · cases had
      exact ⟨rfl, _, hb, by show of + (cD - 1) * 2 ≤ l.toArray.size; rw [List.size_toArray]; omega⟩
    · cases had
      exact ⟨rfl, _, hb, by show of + 2 + (cD - 1) * 2 ≤ l.toArray.size; rw [List.size_toArray]; omega⟩
section
variable {w w' : World} {role : Nat → Nat} {r qb : Nat}
set_option maxHeartbeats 4000000 in
theorem take_one {n m : Nat} {p : List UInt8} (hq : QuZ w role r qb ⟨[(0, p)], 0, n, n, true⟩) (hp : p.length = n) (h0 : 0 < n) (hn : n ≤ 1200) (hm : n ≤ m) (hm2 : m < 1000000) (top : ∀ k, w.heap.size ≤ k → role k = 0) :
    Calls Try.prog 36 #[ptr qb, .int .i64 (m : Int)] w fun e w' => (∃ a c, e = .returned (.tuple #[.slice a n c, .bool true])) ∧ QuZ w' role r qb ⟨[], n, n, n, true⟩ ∧ Stq (fun x => r + 10 ≤ x ∧ x ≤ r + 12) w w' role role := by
  obtain ⟨x0, vs0, qq1, qq2, qq3, qq4⟩ := hq.ex
  have hrq := qq1.rb
  obtain ⟨bD, of, cD, a2, c2, hf, hb, rD, r2⟩ := hq.qf1 hp
  have HF := Lib.hid hf
  have HBS := Lib.hid hb
  have HR := Lib.hid (⟨hrq, rD, r2⟩ : role qb = r + 10 ∧ role bD = r + 11 ∧ (∀ ad, a2 = some ad → role ad.block = r + 12))
  have HTOP := Lib.hid top
  have HNM := Lib.hid (⟨h0, hn, hm, hm2⟩ : 0 < n ∧ n ≤ 1200 ∧ n ≤ m ∧ m < 1000000)
  have HRD := Lib.hid (ready_one hf (by omega))
  have hmx : ∀ (ts : Array TypeId) (t : TypeId) (W : World), (Builtin.max_ ts t #[.int .i64 (m : Int), .int .i64 0]).run Try.prog W = .ok (.int .i64 (m : Int)) W := fun ts t W => by have := max2i W ts t m 0; rw [show max m 0 = m by omega] at this; exact this
  have hmn : ∀ (ts : Array TypeId) (t : TypeId) (W : World), (Builtin.min_ ts t #[.int .i64 (n : Int), .int .i64 (m : Int)]).run Try.prog W = .ok (.int .i64 (n : Int)) W := fun ts t W => by have := min2i W ts t n m; rw [show min n m = n by omega] at this; exact this
  have hmk : ∀ (ts : Array TypeId) (t : TypeId) (W : World), (Builtin.min_ ts t #[.int .i64 (n : Int), .int .i64 (n : Int)]).run Try.prog W = .ok (.int .i64 (n : Int)) W := fun ts t W => by have := min2i W ts t n n; rw [show min n n = n by omega] at this; exact this
  have l1 : decide ((0 : Int) < (n : Int)) = true := decide_eq_true (by omega)
  have l2 : 0 < n := h0
  have l3 : decide ((n : Int) < (n : Int)) = false := decide_eq_false (by omega)
  have l4 : IntKind.i64.wrap (n : Int) = (n : Int) := IntWalk.i64_in _ (by omega)
  have l5 : (n : Int) - 0 = (n : Int) := by omega
  clear hq hp h0 hn hm hm2 top hf hb rD r2 hrq qq1 qq2 qq3 qq4
  unfold ptr at HRD ⊢
  go_enter Try.func36, Try.ntmps36
  go_upto_region 5 with (go_at_call 49; refine HRD.out.mono ?_; rintro y w2 ⟨rfl, B2⟩)
  have HF2 := Lib.hid (HF.out.bel B2)
  have HB2 := Lib.hid B2
  clear B2
  refine wp_loop_rounds 2 ?_
  rw [rounds_succ]
  have q0 : w2.cell? ⟨qb, 0, none⟩ = some (.slice (some ⟨bD, of, none⟩) 1 cD) := HF2.out.qr.at_ 0
  have p1 : w2.cell? ⟨bD, of + 1, none⟩ = some (.slice a2 n c2) := HF2.out.p1
  have HBS2 := Lib.hid (RS.below HBS.out HB2.out (Nat.le_refl _))
  go_upto_region 9 with (first
    | (refine L_indexO tP _ _ rfl _ _ 0 rfl rfl rfl (by omega) (J := of) (by omega) (by rfl) ?_)
    | (refine L_slice_h tB HBS2.out n _ _ rfl rfl _ _ rfl rfl rfl (Nat.le_refl _) ?_; intro hs2)
    | (refine L_append tB (OW_nil w2 w.heap.size 5 1) hs2 _ _ (by rfl) rfl rfl rfl (by have := HNM.out; omega) (by have := HNM.out; unfold maxLen; omega) HB2.out.size ?_; intro a4 c4 w3 o4 g4))
  have B3 : Below w2.heap.size w2 w3 := (Below.refl w2.heap.size w2).grown g4 (Nat.le_refl _) (fun j hj => by cases hj)
  have HF3 := Lib.hid (HF2.out.bel B3)
  have HB3 := Lib.hid (HB2.out.trans (B3.mono HB2.out.size))
  have HO4 := Lib.hid o4
  clear q0 p1 hs2 g4 o4 B3
  have bV : Below w3.heap.size w3 w3.drew := bel_drew _ _
  obtain ⟨V, hV⟩ : ∃ V, w3.drew = V := ⟨_, rfl⟩
  rw [hV] at bV
  have HFV := Lib.hid (HF3.out.bel bV)
  have HBV := Lib.hid (HB3.out.trans (bV.mono HB3.out.size))
  have HOV := Lib.hid (HO4.out.below bV (Nat.le_refl _))
  obtain ⟨cur, u1, u2, u3, u4⟩ := HFV.out.bk
  have HCU := Lib.hid (show CR V bD 113 cur.toList by unfold CR; rw [Array.toArray_toList]; exact u1)
  have HCL := Lib.hid (show of < cur.toList.length ∧ of + 1 < cur.toList.length by rw [Array.length_toList]; exact ⟨(Array.getElem?_eq_some_iff.1 u2).1, (Array.getElem?_eq_some_iff.1 u3).1⟩)
  have HUU := Lib.hid u4
  have p0 : V.cell? ⟨bD, of, none⟩ = some (.int .u64 0) := HFV.out.p0
  have p1 : V.cell? ⟨bD, of + 1, none⟩ = some (.slice a2 n c2) := HFV.out.p1
  have hle := HBS.out.2.1
  obtain ⟨a3, ha3⟩ : ∃ q, (if c2 = n then a2 else a2.map (·.add (n * 1))) = q := ⟨_, rfl⟩
  obtain ⟨c3, hc3⟩ : ∃ q, c2 - n = q := ⟨_, rfl⟩
  have HSL := Lib.hid (fun (x : World) => (by have hq := runS_l tB x a2 n c2 n (Nat.le_refl _) hle; unfold sliced at hq; rw [ha3, hc3, Nat.sub_self] at hq; exact hq : (Instr.sliceAt 34 (.slice a2 n c2) (some (.int .i64 (n : Int))) none none).run Try.prog x = .ok (.slice a3 0 c3) x))
  have HNE := Lib.hid (show qb ≠ bD from fun he => by have e1 := HR.out.1; have e2 := HR.out.2.1; rw [he] at e1; omega)
  obtain ⟨SV, hSV⟩ : ∃ q, sliced (some ⟨bD, of, none⟩) 1 1 cD 2 = q := ⟨_, rfl⟩
  have HS2 := Lib.hid (fun (x : World) => (by have hq := runS_l tP x (some ⟨bD, of, none⟩) 1 cD 1 (Nat.le_refl _) HFV.out.cm.1; rw [hSV] at hq; exact hq : (Instr.sliceAt 109 (.slice (some ⟨bD, of, none⟩) 1 cD) (some (.int .i64 1)) none none).run Try.prog x = .ok SV x))
  have HSV1 := Lib.hid (show SV.oneCell' = true by rw [← hSV]; rfl)
  have HSV := Lib.hid hSV
  clear hSV
  have l6 : IntKind.u64.wrap (n : Int) = (n : Int) := IntWalk.u64_in _ (by have := HNM.out; omega)
  have l7 : (0 : Int) + (n : Int) = (n : Int) := by omega
  clear bV u1 u2 u3 u4 hle ha3 hc3
  refine wp_region_held_drew (S := fun _ => True) (by kernel_rfl) trivial (fun hHeld => ?_)
  rw [hV]
  clear hV
  refine wpAnyH_take (i := 0) (v := .pointer (some ⟨bD, of, none⟩)) rfl (by kernel_rfl) (by kernel_rfl) (by kernel_rfl) (fun _ _ _ h => h) (Or.inl ⟨by rfl, fun w h => by go_simp⟩) hHeld ?_
  try simp only [Act.put, List.getElem_toArray, List.getElem_cons_zero, List.setIfInBounds_toArray, List.set_cons_zero, List.set_cons_succ]
  refine wpAnyH_take (i := 1) (v := .pointer (some ⟨bD, of, none⟩)) rfl (by kernel_rfl) (by kernel_rfl) (by kernel_rfl) (fun _ _ _ h => h) (Or.inl ⟨by rfl, fun w h => by go_simp⟩) hHeld ?_
  try simp only [Act.put, List.getElem_toArray, List.getElem_cons_succ, List.getElem_cons_zero, List.setIfInBounds_toArray, List.set_cons_zero, List.set_cons_succ]
  refine wpAnyH_take (i := 2) (v := .pointer (some ⟨bD, of, none⟩)) rfl (by kernel_rfl) (by kernel_rfl) (by kernel_rfl) (fun _ _ _ h => h) (Or.inl ⟨by rfl, fun w h => by go_simp⟩) hHeld ?_
  try simp only [Act.put, List.getElem_toArray, List.getElem_cons_succ, List.getElem_cons_zero, List.setIfInBounds_toArray, List.set_cons_zero, List.set_cons_succ]
  refine wpAnyH_take (i := 3) (v := .pointer (some ⟨bD, of, none⟩)) rfl (by kernel_rfl) (by kernel_rfl) (by kernel_rfl) (fun _ _ _ h => h) (Or.inl ⟨by rfl, fun w h => by go_simp⟩) hHeld ?_
  try simp only [Act.put, List.getElem_toArray, List.getElem_cons_succ, List.getElem_cons_zero, List.setIfInBounds_toArray, List.set_cons_zero, List.set_cons_succ]
  refine wpAnyH_take (i := 4) (v := .pointer (some ⟨bD, of, none⟩)) rfl (by kernel_rfl) (by kernel_rfl) (by kernel_rfl) (fun _ _ _ h => h) (Or.inl ⟨by rfl, fun w h => by go_simp⟩) hHeld ?_
  try simp only [Act.put, List.getElem_toArray, List.getElem_cons_succ, List.getElem_cons_zero, List.setIfInBounds_toArray, List.set_cons_zero, List.set_cons_succ]
  refine wpAnyH_take (i := 6) (v := .int .i64 (n : Int)) rfl (by kernel_rfl) (by kernel_rfl) (by kernel_rfl) (fun _ _ _ h => h) (Or.inl ⟨by rfl, fun w h => by go_simp⟩) hHeld ?_
  try simp only [Act.put, List.getElem_toArray, List.getElem_cons_succ, List.getElem_cons_zero, List.setIfInBounds_toArray, List.set_cons_zero, List.set_cons_succ]
  refine wpAnyH_take (i := 7) (v := .int .u64 (n : Int)) rfl (by kernel_rfl) (by kernel_rfl) (by kernel_rfl) (fun _ _ _ h => h) (Or.inl ⟨by rfl, fun w h => by go_simp⟩) hHeld ?_
  try simp only [Act.put, List.getElem_toArray, List.getElem_cons_succ, List.getElem_cons_zero, List.setIfInBounds_toArray, List.set_cons_zero, List.set_cons_succ]
  refine wpAnyH_take (i := 9) (v := .pointer (some ⟨bD, of, none⟩)) rfl (by kernel_rfl) (by kernel_rfl) (by kernel_rfl) (fun _ _ _ h => h) (Or.inl ⟨by rfl, fun w h => by go_simp⟩) hHeld ?_
  try simp only [Act.put, List.getElem_toArray, List.getElem_cons_succ, List.getElem_cons_zero, List.setIfInBounds_toArray, List.set_cons_zero, List.set_cons_succ]
  refine wpAnyH_take (i := 10) (v := .pointer (some ⟨bD, of, none⟩)) rfl (by kernel_rfl) (by kernel_rfl) (by kernel_rfl) (fun _ _ _ h => h) (Or.inl ⟨by rfl, fun w h => by go_simp⟩) hHeld ?_
  try simp only [Act.put, List.getElem_toArray, List.getElem_cons_succ, List.getElem_cons_zero, List.setIfInBounds_toArray, List.set_cons_zero, List.set_cons_succ]
  refine wpAnyH_take (i := 11) (v := .pointer (some ⟨bD, of + 1, none⟩)) rfl (by kernel_rfl) (by kernel_rfl) (by kernel_rfl) (fun _ _ _ h => h) (Or.inl ⟨by rfl, fun w h => by go_simp⟩) hHeld ?_
  try simp only [Act.put, List.getElem_toArray, List.getElem_cons_succ, List.getElem_cons_zero, List.setIfInBounds_toArray, List.set_cons_zero, List.set_cons_succ]
  refine wpAnyH_take (i := 13) (v := .int .i64 (n : Int)) rfl (by kernel_rfl) (by kernel_rfl) (by kernel_rfl) (fun _ _ _ h => h) (Or.inl ⟨by rfl, fun w h => by go_simp⟩) hHeld ?_
  try simp only [Act.put, List.getElem_toArray, List.getElem_cons_succ, List.getElem_cons_zero, List.setIfInBounds_toArray, List.set_cons_zero, List.set_cons_succ]
  refine wpAnyH_ready (rs := [5, 12]) (by kernel_rfl) (by simp) (AllReadyH.cons rfl (fun K hK => ?qa) (AllReadyH.cons rfl (fun K hK => ?qb) AllReadyH.nil))
  case qa =>
    go_simp
    refine hK.out _ _ trivial (fun hHeld => ?_)
    clear hK K
    try simp only [Act.put, List.getElem_toArray, List.getElem_cons_succ, List.getElem_cons_zero, List.setIfInBounds_toArray, List.set_cons_zero, List.set_cons_succ]
    refine wpAnyH_take (i := 8) (v := .int .u64 (n : Int)) rfl (by kernel_rfl) (by kernel_rfl) (by kernel_rfl) (fun _ _ _ h => h) (Or.inl ⟨by rfl, fun w h => by go_simp⟩) hHeld ?_
    try simp only [Act.put, List.getElem_toArray, List.getElem_cons_succ, List.getElem_cons_zero, List.setIfInBounds_toArray, List.set_cons_zero, List.set_cons_succ]
    refine wpAnyH_ready (rs := [12]) (by kernel_rfl) (by simp) (AllReadyH.cons rfl (fun K hK => ?_) AllReadyH.nil)
    go_simp
    refine hK.out _ _ trivial (fun hHeld => ?_)
    clear hK K
    try simp only [Act.put, List.getElem_toArray, List.getElem_cons_succ, List.getElem_cons_zero, List.setIfInBounds_toArray, List.set_cons_zero, List.set_cons_succ]
    refine wpAnyH_take (i := 14) (v := .slice a3 0 c3) rfl (by kernel_rfl) (by kernel_rfl) (by kernel_rfl) (fun _ _ _ h => h) (Or.inl ⟨by rfl, fun w h => by have h2 := HSL.out w; go_simp⟩) hHeld ?_
    try simp only [Act.put, List.getElem_toArray, List.getElem_cons_succ, List.getElem_cons_zero, List.setIfInBounds_toArray, List.set_cons_zero, List.set_cons_succ]
    refine wpAnyH_take (i := 15) (v := .pointer (some ⟨bD, of, none⟩)) rfl (by kernel_rfl) (by kernel_rfl) (by kernel_rfl) (fun _ _ _ h => h) (Or.inl ⟨by rfl, fun w h => by go_simp⟩) hHeld ?_
    try simp only [Act.put, List.getElem_toArray, List.getElem_cons_succ, List.getElem_cons_zero, List.setIfInBounds_toArray, List.set_cons_zero, List.set_cons_succ]
    refine wpAnyH_take (i := 16) (v := .pointer (some ⟨bD, of, none⟩)) rfl (by kernel_rfl) (by kernel_rfl) (by kernel_rfl) (fun _ _ _ h => h) (Or.inl ⟨by rfl, fun w h => by go_simp⟩) hHeld ?_
    try simp only [Act.put, List.getElem_toArray, List.getElem_cons_succ, List.getElem_cons_zero, List.setIfInBounds_toArray, List.set_cons_zero, List.set_cons_succ]
    refine wpAnyH_ready (rs := [17]) (by kernel_rfl) (by simp) (AllReadyH.cons rfl (fun K hK => ?_) AllReadyH.nil)
    refine S_store1 rfl 25 _ _ rfl (i := of) (v := .int .u64 (n : Int)) HCU.out rfl rfl (by kernel_rfl) HCL.out.1 rfl ?_
    intro w5 hc5 hg5
    have HC5 := Lib.hid hc5
    have HG5 := Lib.hid hg5
    clear hc5 hg5
    refine hK.out _ _ trivial (fun hHeld => ?_)
    clear hK K
    try simp only [Act.put, List.getElem_toArray, List.getElem_cons_succ, List.getElem_cons_zero]
    refine wpAnyH_take (i := 18) (v := .pointer (some ⟨bD, of, none⟩)) rfl (by kernel_rfl) (by kernel_rfl) (by kernel_rfl) (fun _ _ _ h => h) (Or.inl ⟨by rfl, fun w h => by go_simp⟩) hHeld ?_
    try simp only [Act.put, List.getElem_toArray, List.getElem_cons_succ, List.getElem_cons_zero, List.setIfInBounds_toArray, List.set_cons_zero, List.set_cons_succ]
    refine wpAnyH_take (i := 19) (v := .pointer (some ⟨bD, of + 1, none⟩)) rfl (by kernel_rfl) (by kernel_rfl) (by kernel_rfl) (fun _ _ _ h => h) (Or.inl ⟨by rfl, fun w h => by go_simp⟩) hHeld ?_
    try simp only [Act.put, List.getElem_toArray, List.getElem_cons_succ, List.getElem_cons_zero, List.setIfInBounds_toArray, List.set_cons_zero, List.set_cons_succ]
    refine wpAnyH_ready (rs := [20]) (by kernel_rfl) (by simp) (AllReadyH.cons rfl (fun K hK => ?_) AllReadyH.nil)
    refine S_store1 rfl 34 _ _ rfl (i := of + 1) (v := .slice a3 0 c3) HC5.out rfl rfl (by kernel_rfl) (by rw [List.length_set]; exact HCL.out.2) rfl ?_
    intro w6 hc6 hg6
    have HC6 := Lib.hid hc6
    have HG6 := Lib.hid hg6
    clear hc6 hg6
    refine hK.out _ _ trivial (fun hHeld => ?_)
    clear hK K hHeld
    try simp only [Act.put, List.getElem_toArray, List.getElem_cons_succ, List.getElem_cons_zero]
    refine wpAnyH_done (by kernel_rfl) ?_ _
    try simp only [Act.put, List.getElem_toArray, List.getElem_cons_succ, List.getElem_cons_zero]
    have HQ6 := Lib.hid ((HFV.out.qr.grown HG5.out (fun he => by injection he with he; exact HNE.out he)).grown HG6.out (fun he => by injection he with he; exact HNE.out he))
    have v1 : w6.cell? ⟨bD, of + 1, none⟩ = some (.slice a3 0 c3) := by rw [HC6.out.at_, List.getElem?_set_self (by rw [List.length_set]; exact HCL.out.2)]
    have v2 : w6.cell? ⟨qb, 0, none⟩ = some (.slice (some ⟨bD, of, none⟩) 1 cD) := HQ6.out.at_ 0
    have hsl2 := HS2.out
    clear p0 p1
    go_upto_region 12 with (first
      | (refine L_store1 rfl 109 _ _ rfl (i := 0) (v := SV) HQ6.out rfl rfl (by kernel_rfl) (Nat.le_of_ble_eq_true rfl) HSV1.out ?_; intro w7 hc7 hg7; have HQ7 := Lib.hid hc7; have HG7 := Lib.hid hg7; clear hc7 hg7))
    clear v1 v2 hsl2
    rw [rounds_succ]
    have x1 : w7.cell? ⟨qb, 1, none⟩ = some (.int .u64 0) := HQ7.out.at_ 1
    go_upto_region 13 with (refine L_store1 rfl 25 _ _ rfl (i := 1) (v := .int .u64 (n : Int)) HQ7.out rfl rfl (by kernel_rfl) (Nat.le_of_ble_eq_true rfl) rfl ?_; intro w8 hc8 hg8; have HQ8 := Lib.hid hc8; have HG8 := Lib.hid hg8; clear hc8 hg8)
    have HD8 := Lib.hid (qdone_any (w := w8) (qb := qb) (v0 := SV) (rd := n) (hi := n) (la := n) HQ8.out rfl)
    unfold ptr at HD8
    clear x1
    go_wp2_with (go_at_call 50; refine HD8.out.mono ?_; rintro y w9 ⟨rfl, B9⟩)
    go_ret2
    have s1 := Stq.bel (R := fun x => r + 10 ≤ x ∧ x ≤ r + 12) HBV.out HTOP.out
    have s5 := s1.trans (Stq.grown HG5.out (by rw [HR.out.2.1]; omega) s1.top)
    have s6 := s5.trans (Stq.grown HG6.out (by rw [HR.out.2.1]; omega) s5.top)
    have s7 := s6.trans (Stq.grown HG7.out (by rw [HR.out.1]; omega) s6.top)
    have s8 := s7.trans (Stq.grown HG8.out (by rw [HR.out.1]; omega) s7.top)
    have s9 := s8.trans (Stq.bel B9 s8.top)
    have hbk := ((HC6.out.grown HG7.out (fun he => by injection he with he; exact HNE.out he.symm)).grown HG8.out (fun he => by injection he with he; exact HNE.out he.symm)).bel B9
    exact ⟨⟨a4, c4, rfl⟩, quz_taken HR.out.1 HR.out.2.1 (CR.bel HQ8.out B9) HSV.out hbk (by rw [List.length_set, List.length_set, Array.length_toList]; exact HUU.out) HFV.out.cm HNM.out.1, s9⟩
  case qb =>
    go_simp
    refine hK.out _ _ trivial (fun hHeld => ?_)
    clear hK K
    try simp only [Act.put, List.getElem_toArray, List.getElem_cons_succ, List.getElem_cons_zero, List.setIfInBounds_toArray, List.set_cons_zero, List.set_cons_succ]
    refine wpAnyH_take (i := 14) (v := .slice a3 0 c3) rfl (by kernel_rfl) (by kernel_rfl) (by kernel_rfl) (fun _ _ _ h => h) (Or.inl ⟨by rfl, fun w h => by have h2 := HSL.out w; go_simp⟩) hHeld ?_
    try simp only [Act.put, List.getElem_toArray, List.getElem_cons_succ, List.getElem_cons_zero, List.setIfInBounds_toArray, List.set_cons_zero, List.set_cons_succ]
    refine wpAnyH_ready (rs := [5]) (by kernel_rfl) (by simp) (AllReadyH.cons rfl (fun K hK => ?_) AllReadyH.nil)
    go_simp
    refine hK.out _ _ trivial (fun hHeld => ?_)
    clear hK K
    try simp only [Act.put, List.getElem_toArray, List.getElem_cons_succ, List.getElem_cons_zero, List.setIfInBounds_toArray, List.set_cons_zero, List.set_cons_succ]
    refine wpAnyH_take (i := 8) (v := .int .u64 (n : Int)) rfl (by kernel_rfl) (by kernel_rfl) (by kernel_rfl) (fun _ _ _ h => h) (Or.inl ⟨by rfl, fun w h => by go_simp⟩) hHeld ?_
    try simp only [Act.put, List.getElem_toArray, List.getElem_cons_succ, List.getElem_cons_zero, List.setIfInBounds_toArray, List.set_cons_zero, List.set_cons_succ]
    refine wpAnyH_take (i := 15) (v := .pointer (some ⟨bD, of, none⟩)) rfl (by kernel_rfl) (by kernel_rfl) (by kernel_rfl) (fun _ _ _ h => h) (Or.inl ⟨by rfl, fun w h => by go_simp⟩) hHeld ?_
    try simp only [Act.put, List.getElem_toArray, List.getElem_cons_succ, List.getElem_cons_zero, List.setIfInBounds_toArray, List.set_cons_zero, List.set_cons_succ]
    refine wpAnyH_take (i := 16) (v := .pointer (some ⟨bD, of, none⟩)) rfl (by kernel_rfl) (by kernel_rfl) (by kernel_rfl) (fun _ _ _ h => h) (Or.inl ⟨by rfl, fun w h => by go_simp⟩) hHeld ?_
    try simp only [Act.put, List.getElem_toArray, List.getElem_cons_succ, List.getElem_cons_zero, List.setIfInBounds_toArray, List.set_cons_zero, List.set_cons_succ]
    refine wpAnyH_ready (rs := [17]) (by kernel_rfl) (by simp) (AllReadyH.cons rfl (fun K hK => ?_) AllReadyH.nil)
    refine S_store1 rfl 25 _ _ rfl (i := of) (v := .int .u64 (n : Int)) HCU.out rfl rfl (by kernel_rfl) HCL.out.1 rfl ?_
    intro w5 hc5 hg5
    have HC5 := Lib.hid hc5
    have HG5 := Lib.hid hg5
    clear hc5 hg5
    refine hK.out _ _ trivial (fun hHeld => ?_)
    clear hK K
    try simp only [Act.put, List.getElem_toArray, List.getElem_cons_succ, List.getElem_cons_zero]
    refine wpAnyH_take (i := 18) (v := .pointer (some ⟨bD, of, none⟩)) rfl (by kernel_rfl) (by kernel_rfl) (by kernel_rfl) (fun _ _ _ h => h) (Or.inl ⟨by rfl, fun w h => by go_simp⟩) hHeld ?_
    try simp only [Act.put, List.getElem_toArray, List.getElem_cons_succ, List.getElem_cons_zero, List.setIfInBounds_toArray, List.set_cons_zero, List.set_cons_succ]
    refine wpAnyH_take (i := 19) (v := .pointer (some ⟨bD, of + 1, none⟩)) rfl (by kernel_rfl) (by kernel_rfl) (by kernel_rfl) (fun _ _ _ h => h) (Or.inl ⟨by rfl, fun w h => by go_simp⟩) hHeld ?_
    try simp only [Act.put, List.getElem_toArray, List.getElem_cons_succ, List.getElem_cons_zero, List.setIfInBounds_toArray, List.set_cons_zero, List.set_cons_succ]
    refine wpAnyH_ready (rs := [20]) (by kernel_rfl) (by simp) (AllReadyH.cons rfl (fun K hK => ?_) AllReadyH.nil)
    refine S_store1 rfl 34 _ _ rfl (i := of + 1) (v := .slice a3 0 c3) HC5.out rfl rfl (by kernel_rfl) (by rw [List.length_set]; exact HCL.out.2) rfl ?_
    intro w6 hc6 hg6
    have HC6 := Lib.hid hc6
    have HG6 := Lib.hid hg6
    clear hc6 hg6
    refine hK.out _ _ trivial (fun hHeld => ?_)
    clear hK K hHeld
    try simp only [Act.put, List.getElem_toArray, List.getElem_cons_succ, List.getElem_cons_zero]
    refine wpAnyH_done (by kernel_rfl) ?_ _
    try simp only [Act.put, List.getElem_toArray, List.getElem_cons_succ, List.getElem_cons_zero]
    have HQ6 := Lib.hid ((HFV.out.qr.grown HG5.out (fun he => by injection he with he; exact HNE.out he)).grown HG6.out (fun he => by injection he with he; exact HNE.out he))
    have v1 : w6.cell? ⟨bD, of + 1, none⟩ = some (.slice a3 0 c3) := by rw [HC6.out.at_, List.getElem?_set_self (by rw [List.length_set]; exact HCL.out.2)]
    have v2 : w6.cell? ⟨qb, 0, none⟩ = some (.slice (some ⟨bD, of, none⟩) 1 cD) := HQ6.out.at_ 0
    have hsl2 := HS2.out
    clear p0 p1
    go_upto_region 12 with (first
      | (refine L_store1 rfl 109 _ _ rfl (i := 0) (v := SV) HQ6.out rfl rfl (by kernel_rfl) (Nat.le_of_ble_eq_true rfl) HSV1.out ?_; intro w7 hc7 hg7; have HQ7 := Lib.hid hc7; have HG7 := Lib.hid hg7; clear hc7 hg7))
    clear v1 v2 hsl2
    rw [rounds_succ]
    have x1 : w7.cell? ⟨qb, 1, none⟩ = some (.int .u64 0) := HQ7.out.at_ 1
    go_upto_region 13 with (refine L_store1 rfl 25 _ _ rfl (i := 1) (v := .int .u64 (n : Int)) HQ7.out rfl rfl (by kernel_rfl) (Nat.le_of_ble_eq_true rfl) rfl ?_; intro w8 hc8 hg8; have HQ8 := Lib.hid hc8; have HG8 := Lib.hid hg8; clear hc8 hg8)
    have HD8 := Lib.hid (qdone_any (w := w8) (qb := qb) (v0 := SV) (rd := n) (hi := n) (la := n) HQ8.out rfl)
    unfold ptr at HD8
    clear x1
    go_wp2_with (go_at_call 50; refine HD8.out.mono ?_; rintro y w9 ⟨rfl, B9⟩)
    go_ret2
    have s1 := Stq.bel (R := fun x => r + 10 ≤ x ∧ x ≤ r + 12) HBV.out HTOP.out
    have s5 := s1.trans (Stq.grown HG5.out (by rw [HR.out.2.1]; omega) s1.top)
    have s6 := s5.trans (Stq.grown HG6.out (by rw [HR.out.2.1]; omega) s5.top)
    have s7 := s6.trans (Stq.grown HG7.out (by rw [HR.out.1]; omega) s6.top)
    have s8 := s7.trans (Stq.grown HG8.out (by rw [HR.out.1]; omega) s7.top)
    have s9 := s8.trans (Stq.bel B9 s8.top)
    have hbk := ((HC6.out.grown HG7.out (fun he => by injection he with he; exact HNE.out he.symm)).grown HG8.out (fun he => by injection he with he; exact HNE.out he.symm)).bel B9
    exact ⟨⟨a4, c4, rfl⟩, quz_taken HR.out.1 HR.out.2.1 (CR.bel HQ8.out B9) HSV.out hbk (by rw [List.length_set, List.length_set, Array.length_toList]; exact HUU.out) HFV.out.cm HNM.out.1, s9⟩
end
end Go.Proofs.Yteekafpkbdbadaa.Pi
