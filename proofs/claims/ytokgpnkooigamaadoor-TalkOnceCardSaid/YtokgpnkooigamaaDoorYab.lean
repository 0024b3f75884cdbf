/- TalkNil: its walk. Messages that came in, in a slice. talk: Hear of any message, by a side that asked for nothing; Say of a closed session. TalkOnce: its walk. -/
import Derived.Test.YtokgpnkooigamaaDoorLF
import Derived.Test.YtokgpnkooigamaaDoorLI
import Derived.Test.YtokgpnkooigamaaDoorLM
import Derived.Test.YtokgpnkooigamaaDoorLJ
import Derived.Test.YtokgpnkooigamaaDoorLK
set_option maxRecDepth 100000
set_option linter.unusedVariables false
namespace Go.Proofs.YtokgpnkooigamaaDoor
open Go.RowKit
theorem results_row1s {P : Program} {fn : Func} {p : Tmp} {s : Nat} {ty : TypeId} (h : fn.results = #[.cell p ty, .tmp s]) (tmps : Array Value) (w : World) (g : Nat) (t : TypeId) (cs : Array Value) (d : TypeDesc)
    (hp : tmps.getD p undef = .pointer (some ⟨g, 0, none⟩)) (hg : w.heap[g]? = some (.cells cs t (0, 0)))
    (hu : P.underlying ty = some d) (hd : (match d with | .struct _ | .array _ _ => true | _ => false) = true) (hi : (P.info? ty).map (·.size) = some cs.size) :
    (results fn tmps).run P w = .ok (.tuple #[.agg cs, tmps.getD s undef]) w := by
  have hp' : tmps[p]?.getD undef = .pointer (some ⟨g, 0, none⟩) := by simpa using hp
  simp [results, h, hp', asAddr, run_loadVar_row w g t ty cs _ d hg hu hd hi, Result.andThen]
def Z17 : List Value := [.int .u64 0, .int .u64 0, .int .u64 0, .slice none 0 0, .int .u8 0, .int .u8 0, .int .u64 0, .int .u64 0, .int .u64 0, .int .u64 0, .bool false, .int .u64 0, .slice none 0 0, .int .u64 0, .int .u64 0, .slice none 0 0, .int .i64 0]
set_option maxHeartbeats 4000000 in
theorem say_nil (w : World) (m : MG) (s : ML) : Calls Tryd.prog 13 #[.pointer none, .agg (mgc m s).toArray] w fun e w' => e = .returned (.tuple #[.agg Z16.toArray, .int .i64 6]) ∧ Below w.heap.size w w' := by
  have hb1 := below_alloc w (.cells (mgc m s).toArray 31)
  have hb2 := below_alloc (w.alloc (.cells (mgc m s).toArray 31)) (.cells Z16.toArray 31)
  have hr := CR.new (w.alloc (.cells (mgc m s).toArray 31)) 31 Z16
  obtain ⟨k, hk⟩ : ∃ k, w.heap.size = k := ⟨_, rfl⟩
  rw [show (w.alloc (.cells (mgc m s).toArray 31)).heap.size = k + 1 by simp [hk]] at hr
  have HB := Lib.hid (btr hb1 hb2)
  have HR := Lib.hid hr
  have HKK := Lib.hid hk
  clear hb1 hb2 hr
  unfold mgc u64 SA.v Z16 at *
  go_enter Tryd.func13, Tryd.ntmps13
  go_wp2_with (refine L_storeRow (old := Z16) (new := Z16) rfl 31 _ _ rfl rfl rfl HR.out iMsg rfl rfl (by simp [Z16, Value.oneCell']) ?_; intro W6 hz hg3)
  refine bodyPost_ret_by (results_row1s rfl _ _ _ _ _ _ rfl hz Tryd.underlying31 rfl iMsg) rfl ?_
  exact ⟨rfl, HB.out.grown hg3 HB.out.size (fun j hj => by cases hj; have := HKK.out; omega)⟩
set_option maxHeartbeats 4000000 in
theorem find_nil (w : World) (id : Nat) : Calls Tryd.prog 17 #[.pointer none, .int .u64 (id : Int)] w fun e w' => e = .returned (.tuple #[.agg Z17.toArray, .bool false]) ∧ Below w.heap.size w w' := by
  have hb1 := below_alloc w (.cells Z17.toArray 49)
  have hr := CR.new w 49 Z17
  obtain ⟨k, hk⟩ : ∃ k, w.heap.size = k := ⟨_, rfl⟩
  rw [hk] at hr
  have HB := Lib.hid hb1
  have HR := Lib.hid hr
  have HKK := Lib.hid hk
  clear hb1 hr
  unfold Z17 at *
  go_enter Tryd.func17, Tryd.ntmps17
  go_wp2_with (refine L_storeRow (old := Z17) (new := Z17) rfl 49 _ _ rfl rfl rfl HR.out iAsk rfl rfl (by simp [Z17, Value.oneCell']) ?_; intro W6 hz hg3)
  refine bodyPost_ret_by (results_row1s rfl _ _ _ _ _ _ rfl hz Tryd.underlying49 rfl iAsk) rfl ?_
  exact ⟨rfl, HB.out.grown hg3 HB.out.size (fun j hj => by cases hj; have := HKK.out; omega)⟩
end Go.Proofs.YtokgpnkooigamaaDoor
set_option maxRecDepth 100000
set_option linter.unusedVariables false
namespace Go.Proofs.YtokgpnkooigamaaDoor
open Go.ChangeShapes Go.WideShapes Go.ChangeAt Go.RowKit Go.Deep
/-- a slice of messages that are read -/
def MSL (W : World) (a : Option Addr) (n : Nat) : Prop := n ≤ maxLen ∧ (0 < n → ∃ b o, a = some ⟨b, o, none⟩ ∧ ∀ i, i < n → ∃ (m : MG) (s : ML), W.rangeAt b (o + 16 * i) (mgc m s) ∧ MW W m s)
theorem MSL.below {W W' : World} {a : Option Addr} {n : Nat} (h : MSL W a n) (hb : Below W.heap.size W W') : MSL W' a n :=
  ⟨h.1, fun hn => by
    obtain ⟨b, o, e, hh⟩ := h.2 hn
    refine ⟨b, o, e, fun i hi => ?_⟩
    obtain ⟨m, s, h1, h2⟩ := hh i hi
    have hlt := World.block_lt_of_cell? W _ (h1 0 _ rfl)
    exact ⟨m, s, fun j v hv => (hb.cell (p := ⟨b, o + 16 * i + j, none⟩) hlt).trans (h1 j v hv), h2.bel hb (Nat.le_refl _)⟩⟩
theorem spot_cell {W : World} {ad : Addr} {v : Value} (h : W.cell? ad = some v) : ad.spot = none := by
  unfold World.cell? at h
  split at h
  · split at h
    · cases h
    · next h1 => simpa using h1
  · cases h
theorem msgs_in {H : Type} {enc : TypeId × Value → H} {W : World} {a : Option Addr} {n c : Nat} {x : DataW H × List MemPlace}
    (h : ∃ fuel, DataW.trod enc Tryd.prog W 0 (fun _ => true) true fuel 34 [.slice a n c] = some x) : MSL W a n := by
  obtain ⟨fuel, hf⟩ := h
  rcases open_slice Tryd.underlying34 hf with ⟨h0, _⟩ | ⟨ad, len, cap, m, k, D, Pl, hcs, hb, hl, hm, hmm, hx, hi⟩
  · simp at h0; obtain ⟨_, rfl, _⟩ := h0; exact ⟨by unfold maxLen; omega, fun h => by omega⟩
  · simp at hcs
    obtain ⟨rfl, rfl, rfl⟩ := hcs
    simp only [if_true] at hmm
    refine ⟨by omega, fun hn => ?_⟩
    have hcell : ∀ i, i < n → ∃ cs', cs'.length = 16 ∧ (∀ j, j < 16 → W.cell? ((ad.add (i * 16)).add j) = cs'[j]?) ∧ DataW.trod enc Tryd.prog W 0 (fun _ => true) true k 35 cs' = some (D i, Pl i) := by
      intro i hin
      obtain ⟨cs', hc, ht'⟩ := hi i (by omega)
      rw [cM] at hc
      obtain ⟨_, hcl, hat⟩ := World.cells?_some hc
      exact ⟨cs', hcl, fun j hj => hat j (by omega), ht'⟩
    have hsp : ad.spot = none := by
      obtain ⟨cs', hcl, hat, _⟩ := hcell 0 hn
      have h1 := hat 0 (by omega)
      rw [show ((ad.add (0 * 16)).add 0) = ad from rfl, List.getElem?_eq_getElem (by omega)] at h1
      exact spot_cell h1
    refine ⟨ad.block, ad.off, by cases ad; simp_all, fun i hin => ?_⟩
    obtain ⟨cs', hcl, hat, ht⟩ := hcell i hin
    obtain ⟨m, s, rfl, h1, _⟩ := msg_cells hcl ht
    refine ⟨m, s, fun j v hv => ?_, h1⟩
    have hj := (List.getElem?_eq_some_iff.1 hv).1
    rw [mgc_len] at hj
    have e := hat j hj
    rw [add_plain hsp, add_plain rfl] at e
    rw [← hv, ← e]
    simp [Nat.mul_comm]
section
variable {P : Program} {w : World} {ops : Array Oper} {rest : List Oper} {o : Oper} {f : Act} {Q : Exit → Act → World → Prop} {t e : TypeId} {zero : Value} {z bytes : Nat}
/-- &l[i] of a slice that lies anywhere -/
theorem L_indexO (ty : STy P t e zero z bytes) {b of n c : Nat} (x i : Operand)
    (hop : o.op = .indexAddr t x i) (k : IntKind) (I : Int) (j : Nat) (ex : f.eval x = .slice (some ⟨b, of, none⟩) n c) (ei : f.eval i = .int k I) (hI : I = j) (h1 : j < n) {J : Nat} (hJ : of + z * j = J) (hg : Region.wanted o (yielded ops f.tmps) = true)
    (h : wpList P ops Q rest (f.put o.dst (.pointer (some ⟨b, J, none⟩))) w) : wpList P ops Q (o :: rest) f w := by
  subst hI
  subst hJ
  refine wpList_on hg fun K hK => ?_
  have hrun : (Instr.indexAt t (.slice (some ⟨b, of, none⟩) n c) (.int k (j : Int))).run P w = .ok (.pointer (some ⟨b, of + z * j, none⟩)) w := by
    rw [run_indexAt_slice w t _ n c k _ ty.und', if_pos ⟨by omega, by omega⟩, ty.sizeOf]
    simp [Result.andThen, add_plain, Nat.mul_comm]
  unfold Oper.wp
  simp only [execOp, hop, ex, ei]
  simp [hrun, Result.andThen]
  exact hK _ _ h
end
theorem tM15 : STy Tryd.prog 34 35 (.agg zmsg.toArray) 16 168 := ⟨Tryd.underlying34, by kernel_rfl, rfl, by decide⟩
end Go.Proofs.YtokgpnkooigamaaDoor
set_option maxRecDepth 100000
set_option linter.unusedVariables false
namespace Go.Proofs.YtokgpnkooigamaaDoor
open Go.RowKit
/-- a side that asked for nothing, and heard no more than n messages -/
structure SI (S : SS) (n : Nat) : Prop where
  ow : S.own = []
  th : S.their.length ≤ n
  ou : S.out.length ≤ n + 1
  tl : S.tl ≤ 1152921504606846976
theorem SI.mono {S : SS} {n m : Nat} (h : SI S n) (hm : n ≤ m) : SI S m := ⟨h.ow, Nat.le_trans h.th hm, by have := h.ou; omega, h.tl⟩
theorem SI.over {S : SS} {n : Nat} (h : SI S n) (i : Nat) : SI (overS S i) (n + 1) := by
  unfold overS
  split
  · exact h.mono (Nat.le_succ _)
  · split
    · exact h.mono (Nat.le_succ _)
    · split
      · next h1 => exact ⟨h.ow, by simp only [List.length_set]; have := h.th; omega, by simp only [List.length_append, List.length_singleton]; have := h.ou; omega, by simp only; omega⟩
      · exact ⟨h.ow, by simp only [List.length_set]; have := h.th; omega, by have := h.ou; simp only; omega, h.tl⟩
theorem SI.asked {S : SS} {n : Nat} (h : SI S n) (m : MG) : SI (askedS S m).1 (n + 1) := by
  unfold askedS
  split
  · exact h.mono (Nat.le_succ _)
  · split
    · exact h.mono (Nat.le_succ _)
    · split
      · exact h.mono (Nat.le_succ _)
      · exact ⟨h.ow, by simp only [List.length_append, List.length_singleton]; have := h.th; omega, by have := h.ou; simp only; omega, h.tl⟩
theorem findS_nil (id kind : Nat) : findS [] id kind = none := by simp [findS]
theorem namedS_some {xs : List AG} {nm : List UInt8} {i : Nat} (h : namedS xs nm = some i) : ∃ x, xs[i]? = some x := by
  unfold namedS at h
  rcases idxB_cases (namedB nm) xs 0 with ⟨h1, _⟩ | ⟨j, x, h1, _, h3, _⟩
  · rw [if_pos (by omega)] at h; cases h
  · rw [if_neg (by omega)] at h
    injection h with h
    rw [h3] at h
    obtain rfl : i = j := by omega
    exact ⟨x, h1⟩
theorem reply_zero {k : Nat} {b : Bool} (h : replyS k = (0, b)) : b = false := by
  unfold replyS at h
  repeat' split at h
  all_goals simp at h
  all_goals simp_all
section
variable {w : World} {base g : Nat} {S : SS} {A : SL} {m : MG} {s : ML}
theorem Hear_all (h : SZ w base g S A) (hm : MR w m s) (hK : KA w) (hB : base ≤ w.heap.size) (hc : S.code = 0) {n : Nat} (hi : SI S n) (hn : n ≤ 1000000) :
    Calls Tryd.prog 9 #[.pointer (some ⟨g, 0, none⟩), .agg (mgc m s).toArray] w fun e w' => ∃ (c : Nat) (S1 : SS) (A' : SL), e = .returned (.int .u64 (c : Int)) ∧ SI S1 (n + 1) ∧ S1.code = c ∧ SZ w' base g S1 A' ∧ SK w g A w' A' := by
  have hl : S.their.length ≤ 1048576 := by have := hi.th; omega
  have ho : S.out.length ≤ 1048576 := by have := hi.ou; omega
  have hol : S.own.length ≤ 1048576 := by rw [hi.ow]; simp
  have go : ∀ {S1 : SS} {c : Nat}, SI S1 (n + 1) → (∀ (w1 : World) (s1 : ML), SZ w1 base g S A → MO w1 base m s1 → KA w1 → base ≤ w1.heap.size → Calls Tryd.prog 20 #[.pointer (some ⟨g, 0, none⟩), .agg (mgc m s1).toArray] w1 fun e w' => e = .returned (.int .u64 (c : Int)) ∧ ∃ A', SZ w' base g S1 A' ∧ SK w1 g A w' A') →
      Calls Tryd.prog 9 #[.pointer (some ⟨g, 0, none⟩), .agg (mgc m s).toArray] w fun e w' => ∃ (c : Nat) (S1 : SS) (A' : SL), e = .returned (.int .u64 (c : Int)) ∧ SI S1 (n + 1) ∧ S1.code = c ∧ SZ w' base g S1 A' ∧ SK w g A w' A' := by
    intro S1 c hi1 hh
    refine (Hear_go h hm hK hB hc hh).mono ?_
    rintro e w' ⟨h1, A', h2, h3⟩
    exact ⟨c, { S1 with code := c }, A', h1, ⟨hi1.ow, hi1.th, hi1.ou, hi1.tl⟩, rfl, h2, h3⟩
  have hi0 : SI S (n + 1) := hi.mono (Nat.le_succ _)
  have no : ∀ {c : Nat}, (∀ (w1 : World) (s1 : ML), SZ w1 base g S A → MO w1 base m s1 → KA w1 → base ≤ w1.heap.size → Calls Tryd.prog 20 #[.pointer (some ⟨g, 0, none⟩), .agg (mgc m s1).toArray] w1 fun e w' => e = .returned (.int .u64 (c : Int)) ∧ Below w1.heap.size w1 w') →
      Calls Tryd.prog 9 #[.pointer (some ⟨g, 0, none⟩), .agg (mgc m s).toArray] w fun e w' => ∃ (c : Nat) (S1 : SS) (A' : SL), e = .returned (.int .u64 (c : Int)) ∧ SI S1 (n + 1) ∧ S1.code = c ∧ SZ w' base g S1 A' ∧ SK w g A w' A' := by
    intro c hh
    exact go (S1 := S) (c := c) hi0 fun w1 s1 h1 m1 k1 b1 => (hh w1 s1 h1 m1 k1 b1).mono fun e w' hq => nochange h1 hq
  by_cases hr : rightM m = true
  rotate_left
  · exact no (c := 3) fun w1 s1 h1 m1 k1 b1 => hear_wrong h1 m1 k1 hl ho b1 (by simpa using hr)
  by_cases hs : setupB S m = true
  · by_cases hd : S.heard = true
    · exact no (c := 3) fun w1 s1 h1 m1 k1 b1 => hear_twice_true h1 m1 k1 hl ho b1 hr hs hd
    have hd : S.heard = false := by simpa using hd
    by_cases hsv : S.srv = true
    · have hk : m.kind = 32 := by simpa [setupB, hsv] using hs
      by_cases hv : m.vers.contains 1 = true
      · exact go (S1 := { S with heard := true, ol := min m.n 1152921504606846976, out := S.out ++ [mNV 33 S.tl 1] }) (c := 0) ⟨hi.ow, by have := hi.th; simp only; omega, by simp only [List.length_append, List.length_singleton]; have := hi.ou; omega, hi.tl⟩ fun w1 s1 h1 m1 k1 b1 => hear_s32 h1 m1 k1 hl ho b1 hr hs hd hk hsv (by have := hi.tl; omega) hv
      · exact no (c := 21) fun w1 s1 h1 m1 k1 b1 => hear_v32 h1 m1 k1 hl ho b1 hr hs hd hk (by simpa using hv)
    · have hsv : S.srv = false := by simpa using hsv
      have hk : m.kind = 33 := by simpa [setupB, hsv] using hs
      by_cases hv : m.ver = 1
      · exact go (S1 := { S with heard := true, ol := min m.n 1152921504606846976 }) (c := 0) ⟨hi.ow, by have := hi.th; simp only; omega, by have := hi.ou; simp only; omega, hi.tl⟩ fun w1 s1 h1 m1 k1 b1 => hear_s33 h1 m1 k1 hl ho b1 hr hs hd hk hsv hv
      · exact no (c := 21) fun w1 s1 h1 m1 k1 b1 => hear_v33 h1 m1 k1 hl ho b1 hr hs hd hk hv
  have hs : setupB S m = false := by simpa using hs
  by_cases hd : S.heard = true
  rotate_left
  · exact no (c := 3) fun w1 s1 h1 m1 k1 b1 => hear_twice_false h1 m1 k1 hl ho b1 hr hs (by simpa using hd)
  by_cases hq : requestS m.kind = true
  · exact go (hi.asked m) fun w1 s1 h1 m1 k1 b1 => hear_req h1 m1 k1 hl ho b1 hr hs hd hq
  have hq : requestS m.kind = false := by simpa using hq
  obtain ⟨K, ok, hrp⟩ : ∃ K ok, replyS m.kind = (K, ok) := ⟨_, _, rfl⟩
  by_cases hK0 : K = 0
  rotate_left
  · exact no (c := 3) fun w1 s1 h1 m1 k1 b1 => hear_reply_no h1 m1 k1 hl ho b1 hr hs hd hq hol K ok hrp hK0 (by rw [hi.ow]; exact findS_nil _ _)
  subst hK0
  obtain rfl := reply_zero hrp
  by_cases hen : endS m.kind = 0
  rotate_left
  · cases hf : findS S.their m.id (endS m.kind) with
    | none => exact no (c := 3) fun w1 s1 h1 m1 k1 b1 => hear_end_no h1 m1 k1 hl ho b1 hr hs hd hq hrp _ rfl hen hf
    | some i =>
      obtain ⟨hi2, x, hx, _⟩ := findS_some hf
      exact go (c := 0) (hi.over i) fun w1 s1 h1 m1 k1 b1 => hear_end_yes h1 m1 k1 hl ho b1 hr hs hd hq hrp _ rfl hen i x hf hx
  by_cases h11 : m.kind = 11
  · exact no (c := 3) fun w1 s1 h1 m1 k1 b1 => hear_done_no h1 m1 k1 hl ho b1 hr hs hd hq hrp hen h11 hol (by rw [hi.ow]; exact findS_nil _ _)
  by_cases h9 : m.kind = 9
  · cases hf : namedS S.their m.name with
    | none => exact no (c := 3) fun w1 s1 h1 m1 k1 b1 => hear_unann_no h1 m1 k1 hl ho b1 hr hs hd hq hrp hen h9 hf
    | some i =>
      obtain ⟨x, hx⟩ := namedS_some hf
      exact go (c := 0) (hi.over i) fun w1 s1 h1 m1 k1 b1 => hear_unann_yes h1 m1 k1 hl ho b1 hr hs hd hq hrp hen h9 i x hf hx
  by_cases h21 : m.kind = 21
  · by_cases hle : min m.n 1152921504606846976 ≤ S.ol
    · exact no (c := 3) fun w1 s1 h1 m1 k1 b1 => hear_max_no h1 m1 k1 hl ho b1 hr hs hd hq hrp hen h21 hle
    · exact go (S1 := { S with ol := min m.n 1152921504606846976 }) (c := 0) ⟨hi.ow, by have := hi.th; simp only; omega, by have := hi.ou; simp only; omega, hi.tl⟩ fun w1 s1 h1 m1 k1 b1 => hear_max_yes h1 m1 k1 hl ho b1 hr hs hd hq hrp hen h21 hle
  by_cases h16 : m.kind = 16
  · by_cases hsv : S.srv = true
    · exact no (c := 3) fun w1 s1 h1 m1 k1 b1 => hear_goaway_true h1 m1 k1 hl ho b1 hr hs hd hq hrp hen h16 hsv
    · exact no (c := 0) fun w1 s1 h1 m1 k1 b1 => hear_goaway_false h1 m1 k1 hl ho b1 hr hs hd hq hrp hen h16 (by simpa using hsv)
  exact no (c := 3) fun w1 s1 h1 m1 k1 b1 => hear_other h1 m1 k1 hl ho b1 hr hs hd hq hrp hen h11 h9 h21 h16
/-- what is to be said by a closed session -/
theorem Say_closed (h : SZ w base g S A) (m : MG) (s : ML) (hc : S.code ≠ 0) :
    Calls Tryd.prog 13 #[.pointer (some ⟨g, 0, none⟩), .agg (mgc m s).toArray] w fun e w' => e = .returned (.tuple #[.agg Z16.toArray, .int .i64 11]) ∧ Below w.heap.size w w' := by
  have hb1 := below_alloc w (.cells (mgc m s).toArray 31)
  have hb2 := below_alloc (w.alloc (.cells (mgc m s).toArray 31)) (.cells Z16.toArray 31)
  have hr := CR.new (w.alloc (.cells (mgc m s).toArray 31)) 31 Z16
  obtain ⟨k, hk⟩ : ∃ k, w.heap.size = k := ⟨_, rfl⟩
  rw [show (w.alloc (.cells (mgc m s).toArray 31)).heap.size = k + 1 by simp [hk]] at hr
  have HB := Lib.hid (btr hb1 hb2)
  have HR := Lib.hid hr
  have HKK := Lib.hid hk
  have g7 := (h.bel (btr hb1 hb2)).row.at_ 7
  have q7 : ((S.code : Int) != 0) = true := by simp; omega
  obtain ⟨c, hcc⟩ : ∃ c, S.code = c := ⟨_, rfl⟩
  rw [hcc] at q7
  simp only [hcc, Go.Proofs.YtokgpnkooigamaaDoor.u64] at g7
  clear hb1 hb2 hr h hc hcc
  unfold mgc u64 SA.v Z16 at *
  obtain ⟨W, hW⟩ : ∃ x, (w.alloc (.cells [Value.int .u64 (m.kind : Int), .int .u64 (m.id : Int), .int .u64 (m.alias : Int), .slice s.nm.a s.nm.n s.nm.c, .int .u8 (m.prio : Int), .int .u8 (m.ord : Int), .int .u64 (m.sg : Int), .int .u64 (m.so : Int), .int .u64 (m.eg : Int), .int .u64 (m.eo : Int), .bool m.some, .int .u64 (m.code : Int), .slice s.rs.a s.rs.n s.rs.c, .int .u64 (m.n : Int), .int .u64 (m.ver : Int), .slice s.vs.a s.vs.n s.vs.c].toArray 31)).alloc (.cells [Value.int .u64 0, .int .u64 0, .int .u64 0, .slice none 0 0, .int .u8 0, .int .u8 0, .int .u64 0, .int .u64 0, .int .u64 0, .int .u64 0, .bool false, .int .u64 0, .slice none 0 0, .int .u64 0, .int .u64 0, .slice none 0 0].toArray 31) = x := ⟨_, rfl⟩
  have g7W : W.cell? ⟨g, 7, none⟩ = some (.int .u64 (c : Int)) := by rw [← hW]; exact g7
  clear g7
  rw [hW] at HR HB
  go_enter Tryd.func13, Tryd.ntmps13
  go_wp2_with (refine L_storeRow (old := Z16) (new := Z16) rfl 31 _ _ rfl rfl rfl HR.out iMsg rfl rfl (by simp [Z16, Value.oneCell']) ?_; intro W6 hz hg3)
  refine bodyPost_ret_by (results_row1s rfl _ _ _ _ _ _ rfl hz Tryd.underlying31 rfl iMsg) rfl ?_
  exact ⟨rfl, HB.out.grown hg3 HB.out.size (fun j hj => by cases hj; have := HKK.out; omega)⟩
end
end Go.Proofs.YtokgpnkooigamaaDoor
set_option maxRecDepth 100000
set_option linter.unusedVariables false
namespace Go.Proofs.YtokgpnkooigamaaDoor
open Go.RowKit
section
variable {w : World} {base g : Nat} {S : SS} {A : SL}
theorem Out_x (h : SZ w base g S A) : Calls Tryd.prog 12 #[.pointer (some ⟨g, 0, none⟩)] w fun e w' => ∃ a n c A', e = .returned (.slice a n c) ∧ SZ w' base g { S with out := [] } A' ∧ SK w g A w' A' :=
  (out_any h).mono fun e w' ⟨h1, h2, h3, _⟩ => ⟨A.ou.a, A.ou.n, A.ou.c, _, h1, h2, h3⟩
theorem Out_0 (h : SZ w base g S A) (ho : S.out = []) : Calls Tryd.prog 12 #[.pointer (some ⟨g, 0, none⟩)] w fun e w' => ∃ a c A', e = .returned (.slice a 0 c) ∧ SZ w' base g S A' ∧ SK w g A w' A' := by
  have hn := h.ou.n
  rw [ho, List.length_nil] at hn
  refine (out_any h).mono fun e w' ⟨h1, h2, h3, _⟩ => ⟨A.ou.a, A.ou.c, _, ?_, ?_, h3⟩
  · rw [h1]; unfold SA.v; rw [← hn]
  · rw [show S = { S with out := [] } by cases S; simp_all]; exact h2
theorem New_any (w : World) (sv : Bool) : Calls Tryd.prog 8 #[.bool sv, .int .u64 9] w fun e w' => e = .returned (.pointer (some ⟨w.heap.size, 0, none⟩)) ∧ (∃ A, SZ w' w.heap.size w.heap.size (newS sv 9) A) ∧ Below w.heap.size w w' := by
  cases sv with
  | true => exact (new_srv w 9).mono fun e w' h => by obtain ⟨h1, h2, h3⟩ := h; exact ⟨h1, ⟨_, h2⟩, h3⟩
  | false => exact (new_cli w 9).mono fun e w' h => by obtain ⟨h1, h2, h3⟩ := h; exact ⟨h1, h2, h3⟩
end
structure ON1 (w : World) (n base g i c : Nat) (wr : World) : Prop where
  le : i ≤ n
  b : Below w.heap.size w wr
  bb : base ≤ wr.heap.size
  ex : ∃ S A, SZ wr base g S A ∧ SI S (min i 20) ∧ S.code = c
structure ON2 (w : World) (n base g i c : Nat) (wr : World) : Prop where
  le : i ≤ n
  b : Below w.heap.size w wr
  bb : base ≤ wr.heap.size
  ex : ∃ S A, SZ wr base g S A ∧ S.out = [] ∧ S.code = c ∧ c ≠ 0
theorem ON1.start {w w1 w2 : World} {sv : Bool} {n : Nat} (b1 : Below w.heap.size w w1) (hz : ∃ A, SZ w2 w1.heap.size w1.heap.size (newS sv 9) A) (b2 : Below w1.heap.size w1 w2) : ON1 w n w1.heap.size w1.heap.size 0 0 w2 :=
  ⟨Nat.zero_le _, b1.trans (b2.mono b1.size), b2.size, by
    obtain ⟨A, hz⟩ := hz
    exact ⟨_, A, hz, by cases sv <;> exact ⟨rfl, by simp [newS], by simp [newS], by simp [newS]⟩, by cases sv <;> rfl⟩⟩
theorem ON1.skip {w wr w' : World} {n base g i c : Nat} (h : ON1 w n base g i c wr) (hb : Below wr.heap.size wr w') (hi : i < n) : ON1 w n base g (i + 1) c w' := by
  obtain ⟨S, A, h1, h2, h3⟩ := h.ex
  exact ⟨hi, h.b.trans (hb.mono h.b.size), Nat.le_trans h.bb hb.size, S, A, h1.bel hb, h2.mono (by omega), h3⟩
theorem ON1.bel {w wr w' : World} {n base g i c : Nat} (h : ON1 w n base g i c wr) (hb : Below wr.heap.size wr w') : ON1 w n base g i c w' := by
  obtain ⟨S, A, h1, h2, h3⟩ := h.ex
  exact ⟨h.le, h.b.trans (hb.mono h.b.size), Nat.le_trans h.bb hb.size, S, A, h1.bel hb, h2, h3⟩
theorem MSL.at_ {w wr : World} {b o n : Nat} (h : MSL w (some ⟨b, o, none⟩) n) (hb : Below w.heap.size w wr) {i : Nat} (hi : i < n) : ∃ (m : MG) (s : ML), wr.rangeAt b (o + 16 * i) (mgc m s) ∧ MW wr m s := by
  obtain ⟨b', o', he, hh⟩ := (h.below hb).2 (by omega)
  cases he
  exact hh i hi
theorem ON1.heard {w wr : World} {n base g i : Nat} (h : ON1 w n base g i 0 wr) (hi : i < n) (h20 : i < 20) (hw : w.heap.size ≤ base) {m : MG} {s : ML} (hm : MR wr m s) (hK : KA wr) :
    Calls Tryd.prog 9 #[.pointer (some ⟨g, 0, none⟩), .agg (mgc m s).toArray] wr fun e w' => ∃ c : Nat, e = .returned (.int .u64 (c : Int)) ∧ ON1 w n base g (i + 1) c w' := by
  obtain ⟨S, A, h1, h2, h3⟩ := h.ex
  refine (Hear_all h1 hm hK h.bb h3 (n := i) (h2.mono (by omega)) (by omega)).mono ?_
  rintro e w' ⟨c, S1, A', rfl, h5, h6, h7, h8⟩
  have hb := h8.below h1 h.bb
  exact ⟨c, rfl, hi, h.b.trans (hb.mono hw), Nat.le_trans h.bb hb.size, S1, A', h7, h5.mono (by omega), h6⟩
theorem ON1.go {w wr : World} {n m base g i c : Nat} (h : ON1 w n base g i c wr) (hc : c ≠ 0) (hw : w.heap.size ≤ base) :
    Calls Tryd.prog 12 #[.pointer (some ⟨g, 0, none⟩)] wr fun e w' => ∃ a n c', e = .returned (.slice a n c') ∧ ON2 w m base g 0 c w' := by
  obtain ⟨S, A, h1, h2, h3⟩ := h.ex
  refine (Out_x h1).mono ?_
  rintro e w' ⟨a, n, c', A', h4, h5, h6⟩
  have hb := h6.below h1 h.bb
  exact ⟨a, n, c', h4, Nat.zero_le _, h.b.trans (hb.mono hw), Nat.le_trans h.bb hb.size, _, A', h5, rfl, h3, hc⟩
theorem ON2.bel {w wr w' : World} {n base g i c : Nat} (h : ON2 w n base g i c wr) (hb : Below wr.heap.size wr w') : ON2 w n base g i c w' := by
  obtain ⟨S, A, h1, h2, h3, h4⟩ := h.ex
  exact ⟨h.le, h.b.trans (hb.mono h.b.size), Nat.le_trans h.bb hb.size, S, A, h1.bel hb, h2, h3, h4⟩
theorem ON2.next {w wr : World} {n base g i c : Nat} (h : ON2 w n base g i c wr) (hi : i < n) : ON2 w n base g (i + 1) c wr := ⟨hi, h.b, h.bb, h.ex⟩
theorem ON2.say {w wr : World} {n base g i c : Nat} (h : ON2 w n base g i c wr) (m : MG) (s : ML) :
    Calls Tryd.prog 13 #[.pointer (some ⟨g, 0, none⟩), .agg (mgc m s).toArray] wr fun e w' => e = .returned (.tuple #[.agg Z16.toArray, .int .i64 11]) ∧ Below wr.heap.size wr w' := by
  obtain ⟨S, A, h1, h2, h3, h4⟩ := h.ex
  exact Say_closed h1 m s (by rw [h3]; exact h4)
theorem ON2.hear {w wr : World} {n base g i c : Nat} (h : ON2 w n base g i c wr) (m : MG) (s : ML) :
    Calls Tryd.prog 9 #[.pointer (some ⟨g, 0, none⟩), .agg (mgc m s).toArray] wr fun e w' => e = .returned (.int .u64 (c : Int)) ∧ Below wr.heap.size wr w' := by
  obtain ⟨S, A, h1, h2, h3, h4⟩ := h.ex
  have := Hear_closed h1 m s (by rw [h3]; exact h4)
  rwa [h3] at this
theorem ON2.out {w wr : World} {n base g i c : Nat} (h : ON2 w n base g i c wr) (hw : w.heap.size ≤ base) :
    Calls Tryd.prog 12 #[.pointer (some ⟨g, 0, none⟩)] wr fun e w' => ∃ a c', e = .returned (.slice a 0 c') ∧ ON2 w n base g i c w' := by
  obtain ⟨S, A, h1, h2, h3, h4⟩ := h.ex
  refine (Out_0 h1 h2).mono ?_
  rintro e w' ⟨a, c', A', h5, h6, h7⟩
  have hb := h7.below h1 h.bb
  exact ⟨a, c', h5, h.le, h.b.trans (hb.mono hw), Nat.le_trans h.bb hb.size, S, A', h6, h2, h3, h4⟩
theorem ON2.up {w wr : World} {n base g i c : Nat} (h : ON2 w n base g i c wr) :
    Calls Tryd.prog 10 #[.pointer (some ⟨g, 0, none⟩)] wr fun e w' => e = .returned (.bool false) ∧ wr = w' := by
  obtain ⟨S, A, h1, h2, h3, h4⟩ := h.ex
  have := up_any h1
  rwa [show upS S = false by unfold upS; rw [h3]; simp [h4]] at this
theorem ON2.code {w wr : World} {n base g i c : Nat} (h : ON2 w n base g i c wr) :
    Calls Tryd.prog 14 #[.pointer (some ⟨g, 0, none⟩)] wr fun e w' => e = .returned (.int .u64 (c : Int)) ∧ wr = w' := by
  obtain ⟨S, A, h1, h2, h3, h4⟩ := h.ex
  have := code_any h1
  rwa [h3] at this
set_option maxHeartbeats 16000000 in
theorem talkOnce_walk (w : World) (sv : Bool) {a1 : Option Addr} {n1 c1 : Nat} (h1 : MSL w a1 n1) {a2 : Option Addr} {n2 c2 : Nat} (h2 : MSL w a2 n2) (hK : KA w) :
    Calls Tryd.prog 4 #[.bool sv, .slice a1 n1 c1, .slice a2 n2 c2] w fun e w' => e = .returned (.bool true) ∧ Below w.heap.size w w' := by
  have HA := Lib.hid (awake_any w hK)
  have H1 := Lib.hid h1
  have H2 := Lib.hid h2
  have HK := Lib.hid hK
  have hn1 := h1.1
  have hn2 := h2.1
  unfold maxLen at hn1 hn2
  clear h1 h2 hK
  go_enter Tryd.func4, Tryd.ntmps4
  go_upto_region 3 with (go_at_call 7; refine HA.out.mono ?_; rintro y w1 ⟨rfl, b1⟩; have B1 := Lib.hid b1; clear b1)
  have hnw := New_any w1 sv
  obtain ⟨g, hg⟩ : ∃ g, w1.heap.size = g := ⟨_, rfl⟩
  have hst : ∀ w2, (∃ A, SZ w2 w1.heap.size w1.heap.size (newS sv 9) A) → Below w1.heap.size w1 w2 → ON1 w n1 w1.heap.size w1.heap.size 0 0 w2 := fun w2 h3 h4 => ON1.start B1.out h3 h4
  have hgw : w.heap.size ≤ g := by rw [← hg]; exact B1.out.size
  rw [hg] at hnw hst
  have HNW := Lib.hid hnw
  have HST := Lib.hid hst
  clear HA hnw hst hg
  go_upto_region 6 with (go_at_call 8; refine HNW.out.mono ?_; rintro y w2 ⟨rfl, z2, b2⟩; have O2 := Lib.hid (HST.out w2 z2 b2); clear z2 b2)
  clear HNW HST
  go_loopw [21, 8] (fun s21 s8 wr => ∃ i c : Nat, s21 = .int .i64 (i : Int) ∧ s8 = .int .u64 (c : Int) ∧ ON1 w n1 g g i c wr) (fun s21 _ _ => match s21 with | .int _ x => (n1 - x).toNat | _ => 0)
  case atStart => exact ⟨0, 0, rfl, rfl, O2.out⟩
  case round =>
    clear O2 B1 w1 w2
    obtain ⟨i, c, rfl, rfl, ho⟩ := hrel
    have hi := ho.le
    have O := Lib.hid ho
    clear ho
    by_cases hik : i = n1
    · subst hik
      by_cases hc0 : c = 0
      · subst hc0
        clear H2 HK
        go_wp2
        go_ret
        exact ⟨rfl, O.out.b⟩
      · have qc : ((c : Int) == 0) = false := by simp; omega
        have HGO := Lib.hid (O.out.go (m := n2) hc0 hgw)
        clear H1 hc0 O hi
        go_upto_region 15 with (go_at_call 12; refine HGO.out.mono ?_; rintro y w3 ⟨a3, n3, c3, rfl, o3⟩; have O3 := Lib.hid o3; clear o3)
        clear HGO
        go_loopw [43] (fun s43 wr => ∃ j : Nat, s43 = .int .i64 (j : Int) ∧ ON2 w n2 g g j c wr) (fun s43 _ => match s43 with | .int _ x => (n2 - x).toNat | _ => 0)
        case atStart => exact ⟨0, rfl, O3.out⟩
        case round =>
          clear O3 w3
          obtain ⟨j, rfl, ho⟩ := hrel
          have hj := ho.le
          have O := Lib.hid ho
          clear ho
          by_cases hjk : j = n2
          · subst hjk
            have HCD := Lib.hid O.out.code
            clear H2 HK
            go_wp2_with (go_at_call 14; refine HCD.out.mono ?_; rintro y w4 ⟨rfl, rfl⟩)
            go_ret
            exact ⟨ret_bool (by simp), O.out.b⟩
          · have hlt : j < n2 := by omega
            obtain ⟨b1, o1, rfl⟩ : ∃ b o, a2 = some ⟨b, o, none⟩ := by
              obtain ⟨b, o, he, _⟩ := H2.out.2 (by omega)
              exact ⟨b, o, he⟩
            obtain ⟨m, s, hrg, hmw⟩ := H2.out.at_ O.out.b hlt
            obtain ⟨J, hJ⟩ : ∃ J, o1 + 16 * j = J := ⟨_, rfl⟩
            rw [hJ] at hrg
            obtain ⟨kx, hkx⟩ : ∃ x, wr.heap.size = x := ⟨_, rfl⟩
            have hrx := CR.new wr 35 Z16
            rw [hkx] at hrx
            have HRG := Lib.hid hrg
            have HMW := Lib.hid hmw
            have HJ := Lib.hid hJ
            have H17 := Lib.hid hrx
            have hwr : IntKind.i64.wrap ((j : Int) + 1) = (j : Int) + 1 := IntWalk.i64_in _ (by omega)
            have HKX := Lib.hid hkx
            clear hrg hmw hJ hrx hjk
            unfold mgc Go.Proofs.YtokgpnkooigamaaDoor.u64 SA.v at HRG
            go_upto_region 17 with (first
              | ((with_reducible refine gate_ix ?_); refine L_indexO tM15 _ _ rfl .i64 _ j rfl rfl rfl hlt HJ.out (by rfl) ?_)
              | (refine L_loadG 35 _ rfl (by rfl) _ _ rfl _ _ HRG.out Tryd.underlying35 rfl iMsg15 ?_)
              | (refine L_storeRow (old := Z16) (new := mgc m s) rfl 35 _ _ rfl rfl rfl H17.out iMsg15 rfl rfl (mgc_one m s) ?_; intro w5 hz5 hg5; have HZ5 := Lib.hid (show CR w5 kx 35 (mgc m s) from hz5); have HG5 := Lib.hid hg5; clear hz5 hg5))
            have hb5 : Below wr.heap.size wr w5 := (below_alloc wr (.cells Z16.toArray 35)).grown HG5.out (by simp) (fun j hj => by cases hj; rw [HKX.out]; exact Nat.le_refl _)
            have HB5 := Lib.hid hb5
            have HRG5 := Lib.hid HZ5.out.rng
            have HM5 := Lib.hid (HMW.out.bel hb5 (Nat.le_refl _))
            have HFW := Lib.hid (few_any w5 m s HM5.out)
            unfold mgc Go.Proofs.YtokgpnkooigamaaDoor.u64 SA.v at HRG5 HFW
            have HO5 := Lib.hid (O.out.bel hb5)
            clear hb5 HRG HMW H17 HG5
            by_cases hj20 : 20 ≤ j
            · have q20 : decide ((20 : Int) ≤ (j : Int)) = true := decide_eq_true (by omega)
              have HCD := Lib.hid HO5.out.code
              clear H2 HK HFW HRG5 HM5 HZ5
              go_wp2_with (go_at_call 14; refine HCD.out.mono ?_; rintro y w4 ⟨rfl, rfl⟩)
              go_ret
              exact ⟨ret_bool (by simp), HO5.out.b⟩
            · have q20 : decide ((20 : Int) ≤ (j : Int)) = false := decide_eq_false (by omega)
              clear H2 HK
              have RGK := Lib.hid (fun (x : World) (b : Below w5.heap.size w5 x) => ((HZ5.out.bel b).rng : x.rangeAt kx 0 (mgc m s)))
              have MWK := Lib.hid (fun (x : World) (b : Below w5.heap.size w5 x) => few_any x m s (HM5.out.bel b (Nat.le_refl _)))
              unfold mgc Go.Proofs.YtokgpnkooigamaaDoor.u64 SA.v at RGK MWK
              go_upto_region 19 with (first
                | (refine L_loadG 35 _ rfl (by rfl) _ _ rfl _ _ HRG5.out Tryd.underlying35 rfl iMsg15 ?_)
                | (go_at_call 11; refine HFW.out.mono ?_; rintro y w6 ⟨s6, rfl, m6, b6⟩; have HB6 := Lib.hid b6; have HS6 := Lib.hid ((HO5.out.bel b6).say (fewM m) s6); have HO6 := Lib.hid (HO5.out.bel b6); clear m6 b6)
                | (go_at_call 13; refine HS6.out.mono ?_; rintro y w7 ⟨rfl, b7⟩; have HB7 := Lib.hid (btr HB6.out b7); have HO7 := Lib.hid (HO6.out.bel b7); clear b7; obtain ⟨ky, hky⟩ : ∃ x, w7.heap.size = x := ⟨_, rfl⟩; have hry := CR.new w7 31 Z16; rw [hky] at hry; have HRY := Lib.hid hry; have HKY := Lib.hid hky; clear hry)
                | (refine L_storeRow (old := Z16) (new := Z16) rfl 31 _ _ rfl rfl rfl HRY.out iMsg rfl rfl (by simp [Z16, Value.oneCell']) ?_; intro w8 hz8 hg8; have HG8 := Lib.hid hg8; clear hz8 hg8))
              have hb8 : Below w7.heap.size w7 w8 := (below_alloc w7 (.cells Z16.toArray 31)).grown HG8.out (by simp) (fun j hj => by cases hj; rw [HKY.out]; exact Nat.le_refl _)
              have HO8 := Lib.hid (HO7.out.bel hb8)
              have HRG8 := Lib.hid (RGK.out w8 (btr HB7.out hb8))
              have HFW8 := Lib.hid (MWK.out w8 (btr HB7.out hb8))
              clear hb8 HRG5 HFW RGK MWK HRY HB7 HB6 HS6
              go_wp2_with (first
                | (refine L_loadG 35 _ rfl (by rfl) _ _ rfl _ _ HRG8.out Tryd.underlying35 rfl iMsg15 ?_)
                | (go_at_call 11; refine HFW8.out.mono ?_; rintro y w9 ⟨s9, rfl, m9, b9⟩; have HH9 := Lib.hid ((HO8.out.bel b9).hear (fewM m) s9); have HO9 := Lib.hid (HO8.out.bel b9); clear m9 b9)
                | (go_at_call 9; refine HH9.out.mono ?_; rintro y w10 ⟨rfl, b10⟩; have HOU := Lib.hid ((HO9.out.bel b10).out hgw); clear b10)
                | (go_at_call 12; refine HOU.out.mono ?_; rintro y w11 ⟨a11, c11, rfl, o11⟩; have HO11 := Lib.hid o11; have HUP := Lib.hid o11.up; clear o11)
                | (go_at_call 10; refine HUP.out.mono ?_; rintro y w12 ⟨rfl, rfl⟩))
              exact ⟨⟨j + 1, by simp, HO11.out.next hlt⟩, by simp; omega⟩
    · have hlt : i < n1 := by omega
      obtain ⟨b1, o1, rfl⟩ : ∃ b o, a1 = some ⟨b, o, none⟩ := by
        obtain ⟨b, o, he, _⟩ := H1.out.2 (by omega)
        exact ⟨b, o, he⟩
      obtain ⟨m, s, hrg, hmw⟩ := H1.out.at_ O.out.b hlt
      obtain ⟨J, hJ⟩ : ∃ J, o1 + 16 * i = J := ⟨_, rfl⟩
      rw [hJ] at hrg
      obtain ⟨kx, hkx⟩ : ∃ x, wr.heap.size = x := ⟨_, rfl⟩
      have hrx := CR.new wr 35 Z16
      rw [hkx] at hrx
      have HRG := Lib.hid hrg
      have HMW := Lib.hid hmw
      have HJ := Lib.hid hJ
      have H8 := Lib.hid hrx
      have hwr : IntKind.i64.wrap ((i : Int) + 1) = (i : Int) + 1 := IntWalk.i64_in _ (by omega)
      have HKX := Lib.hid hkx
      clear hrg hmw hJ hrx hik
      unfold mgc Go.Proofs.YtokgpnkooigamaaDoor.u64 SA.v at HRG
      go_upto_region 8 with (first
        | ((with_reducible refine gate_ix ?_); refine L_indexO tM15 _ _ rfl .i64 _ i rfl rfl rfl hlt HJ.out (by rfl) ?_)
        | (refine L_loadG 35 _ rfl (by rfl) _ _ rfl _ _ HRG.out Tryd.underlying35 rfl iMsg15 ?_)
        | (refine L_storeRow (old := Z16) (new := mgc m s) rfl 35 _ _ rfl rfl rfl H8.out iMsg15 rfl rfl (mgc_one m s) ?_; intro w5 hz5 hg5; have HZ5 := Lib.hid (show CR w5 kx 35 (mgc m s) from hz5); have HG5 := Lib.hid hg5; clear hz5 hg5))
      have hb5 : Below wr.heap.size wr w5 := (below_alloc wr (.cells Z16.toArray 35)).grown HG5.out (by simp) (fun j hj => by cases hj; rw [HKX.out]; exact Nat.le_refl _)
      have HB5 := Lib.hid hb5
      have HRG5 := Lib.hid HZ5.out.rng
      have HM5 := Lib.hid (HMW.out.bel hb5 (Nat.le_refl _))
      have HFW := Lib.hid (few_any w5 m s HM5.out)
      unfold mgc Go.Proofs.YtokgpnkooigamaaDoor.u64 SA.v at HRG5 HFW
      have HO5 := Lib.hid (O.out.bel hb5)
      clear hb5 HRG HMW H8 HG5
      by_cases hi20 : i < 20
      · have q20 : decide ((i : Int) < 20) = true := decide_eq_true (by omega)
        by_cases hc0 : c = 0
        · subst hc0
          go_wp2_with (first
            | (refine L_loadG 35 _ rfl (by rfl) _ _ rfl _ _ HRG5.out Tryd.underlying35 rfl iMsg15 ?_)
            | (go_at_call 11; refine HFW.out.mono ?_; rintro y w6 ⟨s6, rfl, m6, b6⟩; have HH := Lib.hid ((HO5.out.bel b6).heard hlt hi20 hgw m6.mr (HK.out.bel (HO5.out.bel b6).b (Nat.le_refl _))); clear m6 b6)
            | (go_at_call 9; refine HH.out.mono ?_; rintro y w7 ⟨c7, rfl, o7⟩))
          exact ⟨⟨i + 1, c7, by simp, rfl, o7⟩, by simp; omega⟩
        · have qc : ((c : Int) == 0) = false := by simp; omega
          clear hc0
          go_wp2
          exact ⟨⟨i + 1, c, by simp, rfl, O.out.skip HB5.out hlt⟩, by simp; omega⟩
      · have q20 : decide ((i : Int) < 20) = false := decide_eq_false (by omega)
        go_wp2
        exact ⟨⟨i + 1, c, by simp, rfl, O.out.skip HB5.out hlt⟩, by simp; omega⟩
end Go.Proofs.YtokgpnkooigamaaDoor
