/- the law's subscribe and awake. -/
import Derived.Test.YtokgpnkooigamaaDoorTX
import Derived.Test.YtokgpnkooigamaaDoorTY
import Derived.Lib.SmallJoins
set_option maxRecDepth 100000
set_option linter.unusedVariables false
namespace Go.Proofs.YtokgpnkooigamaaDoor
open Go.RowKit Go.Joins
/-- a Subscribe -/
def subM (id al : Nat) : MG := ⟨3, id, al, [116], 0, 1, 0, 0, 0, 0, false, 0, [], 0, 0, []⟩
/-- a ClientSetup -/
def cliM (vs : List Nat) (n : Nat) : MG := ⟨32, 0, 0, [], 0, 0, 0, 0, 0, 0, false, 0, [], n, 0, vs⟩
theorem BS_lit (w : World) (xs : List UInt8) (cs : Array Value) (fr : Nat × Nat) (h : cs = (xs.map B).toArray) (n : Nat) (hn : xs.length = n) (hm : n ≤ 140737488355328) {g : Nat} (hg : g = w.heap.size) : BS (w.alloc (.cells cs 5 fr)) (some ⟨g, 0, none⟩) n n xs := by
  subst hg h
  refine ⟨by simp [hn], Nat.le_refl _, by unfold maxLen; omega, one_B _, (fun h => by cases h), fun ad had => ?_⟩
  cases had
  refine ⟨fun _ => rfl, fun q v hq => ?_⟩
  rw [cell_alloc_mark_at w _ _ fr _ _ rfl]
  simpa using hq
set_option maxHeartbeats 4000000 in
theorem subscribe_any (w : World) (id al : Nat) (hi : id < 18446744073709551616) (ha : al < 18446744073709551616) :
    Calls Tryd.prog 15 #[.int .u64 (id : Int), .int .u64 (al : Int)] w fun e w' => ∃ s, e = .returned (.agg (mgc (subM id al) s).toArray) ∧ MR w' (subM id al) s ∧ Below w.heap.size w w' := by
  have hb1 := below_alloc w (.cells zmsg.toArray 31)
  have hZ := CR.new w 31 zmsg
  obtain ⟨k, hk⟩ : ∃ k, w.heap.size = k := ⟨_, rfl⟩
  unfold zmsg at hZ hb1
  obtain ⟨w1, hw1⟩ : ∃ x, w.alloc (.cells #[.int .u64 0, .int .u64 0, .int .u64 0, .slice none 0 0, .int .u8 0, .int .u8 0, .int .u64 0, .int .u64 0, .int .u64 0, .int .u64 0, .bool false, .int .u64 0, .slice none 0 0, .int .u64 0, .int .u64 0, .slice none 0 0] 31) = x := ⟨_, rfl⟩
  rw [hw1, hk] at hZ
  rw [hw1, hk] at hb1
  have hb2 := below_alloc w1 (.cells #[.int .u8 116] 5 (1, 2))
  have hn := BS_lit w1 [116] #[.int .u8 116] (1, 2) rfl 1 rfl (by omega) rfl
  have v1 := run_convert_bytes_const_at (P := Tryd.prog) w1 27 5 #[.int .u8 116] 1 1 w1.heap.size rfl Tryd.underlying27 Tryd.underlying5
  have hZ2 := hZ.bel hb2
  obtain ⟨w2, hw2⟩ : ∃ x, w1.alloc (.cells #[.int .u8 116] 5 (1, 2)) = x := ⟨_, rfl⟩
  obtain ⟨b, hbb⟩ : ∃ b, w1.heap.size = b := ⟨_, rfl⟩
  have v2 : (convert 27 27 (.slice (some ⟨w1.heap.size, 0, none⟩) 1 1)).run Tryd.prog (w1.alloc (.cells #[.int .u8 116] 5)) = .ok (.slice (some ⟨w1.heap.size, 0, none⟩) 1 1) (w1.alloc (.cells #[.int .u8 116] 5 (1, 2))) := v1
  rw [hw2] at hb2 hn hZ2 v2
  rw [hbb] at hn v2
  clear v1
  have hbk : b ≠ k := by have := hZ.lt; omega
  have HZ2 := Lib.hid (show CR w2 k 31 [.int .u64 0, .int .u64 0, .int .u64 0, .slice none 0 0, .int .u8 0, .int .u8 0, .int .u64 0, .int .u64 0, .int .u64 0, .int .u64 0, .bool false, .int .u64 0, .slice none 0 0, .int .u64 0, .int .u64 0, .slice none 0 0] from hZ2)
  have HBt := Lib.hid (show Below k w w2 from hb1.trans (hb2.mono (by have := hb1.size; omega)))
  have HN := Lib.hid hn
  have HI := Lib.hid hi
  have HA := Lib.hid ha
  have HBK := Lib.hid hbk
  clear hb1 hb2 hZ hZ2 hn hi ha hbk
  go_enter Tryd.func15, Tryd.ntmps15
  go_wp2_with (refine L_storeRow (old := [.int .u64 0, .int .u64 0, .int .u64 0, .slice none 0 0, .int .u8 0, .int .u8 0, .int .u64 0, .int .u64 0, .int .u64 0, .int .u64 0, .bool false, .int .u64 0, .slice none 0 0, .int .u64 0, .int .u64 0, .slice none 0 0]) (new := [.int .u64 3, .int .u64 (id : Int), .int .u64 (al : Int), .slice (some ⟨b, 0, none⟩) 1 1, .int .u8 0, .int .u8 1, .int .u64 0, .int .u64 0, .int .u64 0, .int .u64 0, .bool false, .int .u64 0, .slice none 0 0, .int .u64 0, .int .u64 0, .slice none 0 0]) rfl 31 _ _ rfl rfl rfl HZ2.out iMsg rfl rfl (by simp [Value.oneCell']) ?_; intro W6 hz hg3)
  refine bodyPost_ret_by (results_cell_row rfl _ _ _ _ _ _ _ rfl hz Tryd.underlying31 rfl iMsg) rfl ?_
  refine ⟨⟨⟨some ⟨b, 0, none⟩, 1, 1⟩, SA0, SA0⟩, by rfl, ⟨⟨by simp [subM], HI.out, HA.out, by simp [subM], by simp [subM], by simp [subM], by simp [subM], by simp [subM], by simp [subM], by simp [subM], by simp [subM], by simp [subM]⟩, ?_, RS_nil _ _, RS_nil _ _, by simp, by simp [SA0], by simp [SA0]⟩, ?_⟩
  · have h6 := HN.out.grown hg3 (fun ad had he => by cases had; injection he with he; exact HBK.out he)
    exact h6
  · rw [hk]
    exact HBt.out.grown hg3 (by rw [← hk]; exact HBt.out.size) (fun j hj => by cases hj; exact Nat.le_refl _)
theorem Hear_req (w : World) {base g : Nat} {S : SS} {A : SL} (h : SZ w base g S A) {m : MG} {s : ML} (hm : MR w m s) (hK : KA w) (hB : base ≤ w.heap.size) (hc : S.code = 0) (hl : S.their.length ≤ 1048576) (ho : S.out.length ≤ 1048576) (hr : rightM m = true) (hs : setupB S m = false) (hd : S.heard = true) (hq : requestS m.kind = true) :
    Calls Tryd.prog 9 #[.pointer (some ⟨g, 0, none⟩), .agg (mgc m s).toArray] w fun e w' => e = .returned (.int .u64 ((askedS S m).2 : Int)) ∧ ∃ A', SZ w' base g { (askedS S m).1 with code := (askedS S m).2 } A' ∧ SK w g A w' A' :=
  Hear_go h hm hK hB hc fun w1 s1 h1 m1 k1 b1 => hear_req h1 m1 k1 hl ho b1 hr hs hd hq
theorem Hear_s32 (w : World) {base g : Nat} {S : SS} {A : SL} (h : SZ w base g S A) {m : MG} {s : ML} (hm : MR w m s) (hK : KA w) (hB : base ≤ w.heap.size) (hc : S.code = 0) (hl : S.their.length ≤ 1048576) (ho : S.out.length ≤ 1048576) (hr : rightM m = true) (hd : S.heard = false) (hk : m.kind = 32) (hsrv : S.srv = true) (htl : S.tl < 18446744073709551616) (hv : m.vers.contains 1 = true) :
    Calls Tryd.prog 9 #[.pointer (some ⟨g, 0, none⟩), .agg (mgc m s).toArray] w fun e w' => e = .returned (.int .u64 ((0 : Nat) : Int)) ∧ ∃ A', SZ w' base g { S with heard := true, ol := min m.n 1152921504606846976, out := S.out ++ [mNV 33 S.tl 1], code := 0 } A' ∧ SK w g A w' A' :=
  Hear_go h hm hK hB hc fun w1 s1 h1 m1 k1 b1 => hear_s32 h1 m1 k1 hl ho b1 hr (by simp [setupB, hk, hsrv]) hd hk hsrv htl hv
theorem right_sub01 : rightM (subM 0 1) = true := by decide
theorem right_sub42 : rightM (subM 4 2) = true := by decide
theorem right_cli13 : rightM (cliM [1] 3) = true := by decide
end Go.Proofs.YtokgpnkooigamaaDoor
