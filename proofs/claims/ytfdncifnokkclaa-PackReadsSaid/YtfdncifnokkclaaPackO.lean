/-
  Layer 12, the program's package pack: a text, From, and what an Out packs.
-/
import Derived.Test.YtfdncifnokkclaaPack
import Derived.Test.YtfdncifnokkclaaStrs
import Derived.Test.YtfdncifnokkclaaBuildK
namespace Go.Proofs.Ytfdncifnokkclaa
open Go.RowKit

theorem len_list (s : ByteArray) : s.data.toList.length = s.size := by rw [Array.length_toList]; rfl

set_option maxRecDepth 100000 in
set_option maxHeartbeats 1000000 in
theorem PText_walk (s : ByteArray) (hs : s.size ≤ 140737488351232) (w : World) :
    Calls Try.prog 25 #[.string s] w fun e w' => ∃ r, e = .returned (.string r) ∧ Is r (textL s.data.toList) ∧ r.size ≤ s.size + 9 ∧ Below w.heap.size w w' := by
  go_enter Try.func25, Try.ntmps25
  go_wp2_with fail
  refine (PNum_walk _ _).mono ?_
  rintro e w1 ⟨r, rfl, hr, hb⟩
  have hrs : r.size ≤ 9 := by rw [hr.size]; exact numL_short _
  go_wp2_with fail
  go_ret
  refine ⟨_, rfl, ?_, by rw [ByteArray.size_append]; omega, hb⟩
  unfold textL
  rw [len_list]
  exact hr.append (Is.self s)

set_option maxHeartbeats 400000 in
theorem From_walk (s : ByteArray) (w : World) :
    Calls Try.prog 26 #[.string s] w fun e w' => e = .returned (.pointer (some ⟨w.heap.size, 0, none⟩)) ∧ w.alloc (.cells #[.string s, .bool false] 47) = w' := by
  go_enter Try.func26, Try.ntmps26
  go_wp2_with fail
  go_ret
  exact ⟨rfl, rfl⟩

/-! ### An Out -/
theorem liesOut : Lies 31 := ⟨by decide, by kernel_rfl⟩
/-- Block b is an Out that holds the bytes l. -/
def OutAt (B b : Nat) (l : List UInt8) (w : World) : Prop := Lib.IsBuilderF 31 5 B b (cells l) w
set_option maxRecDepth 100000 in
set_option maxHeartbeats 1000000 in
theorem ONum_walk (B b : Nat) (l : List UInt8) (n : BitVec 64) (w : World) (h : OutAt B b l w) (hl : l.length ≤ 140737488351232) (hB : B ≤ w.heap.size) :
    Calls Try.prog 17 #[.pointer (some ⟨b, 0, none⟩), .int .u64 (bvi n)] w fun e w' =>
      e = .returned (.tuple #[]) ∧ OutAt B b (l ++ numL n) w' ∧ Below B w w' ∧ Lib.OthersKept 5 (some b) w w' := by
  have hlt := isBuilder_lt h
  have HO := Lib.hid h
  clear h
  go_enter Try.func17, Try.ntmps17
  go_wp2_with fail
  go_region_with (first | (go_at_call 24; refine (PNum_walk n _).mono ?_; rintro e w1 ⟨r, rfl, hr, hb⟩; have hrs : r.size ≤ 9 := (by rw [hr.size]; exact numL_short _); have HR := Lib.hid hr; have HB := Lib.hid hb; have hsz := hb.size; clear hr hb) | (go_at_call 55; (refine (WriteString_k _ liesOut B b (cells l) r _ (isBuilder_below (w := w.drew) HO.out HB.out) (by rw [cells_length]; omega) (Nat.le_trans hB hsz)).mono ?_; rintro e w2 ⟨rfl, h2, hb2, hk2⟩)))
  go_end0
  refine ⟨rfl, ?_, ?_, ?_⟩
  · unfold OutAt
    rw [cells_append, ← strCells_cells HR.out]
    exact .inr h2
  · exact ((Below.drew (Below.refl B w)).trans (HB.out.mono hB)).trans hb2
  · exact (kept_below (w := w.drew) HB.out).trans hk2

set_option maxRecDepth 100000 in
set_option maxHeartbeats 1000000 in
theorem OText_walk (B b : Nat) (l : List UInt8) (s : ByteArray) (w : World) (h : OutAt B b l w) (hs : s.size ≤ 140737488351232) (hl : l.length + s.size ≤ 140737488351232) (hB : B ≤ w.heap.size) :
    Calls Try.prog 18 #[.pointer (some ⟨b, 0, none⟩), .string s] w fun e w' =>
      e = .returned (.tuple #[]) ∧ OutAt B b (l ++ textL s.data.toList) w' ∧ Below B w w' ∧ Lib.OthersKept 5 (some b) w w' := by
  have hlt := isBuilder_lt h
  have HO := Lib.hid h
  clear h
  go_enter Try.func18, Try.ntmps18
  go_wp2_with fail
  go_region_with (first | (go_at_call 25; refine (PText_walk s hs _).mono ?_; rintro e w1 ⟨r, rfl, hr, hrs, hb⟩; have HR := Lib.hid hr; have HB := Lib.hid hb; have hsz := hb.size; clear hr hb) | (go_at_call 55; (refine (WriteString_k _ liesOut B b (cells l) r _ (isBuilder_below (w := w.drew) HO.out HB.out) (by rw [cells_length]; omega) (Nat.le_trans hB hsz)).mono ?_; rintro e w2 ⟨rfl, h2, hb2, hk2⟩)))
  go_end0
  refine ⟨rfl, ?_, ?_, ?_⟩
  · unfold OutAt
    rw [cells_append, ← strCells_cells HR.out]
    exact .inr h2
  · exact ((Below.drew (Below.refl B w)).trans (HB.out.mono hB)).trans hb2
  · exact (kept_below (w := w.drew) HB.out).trans hk2

/-! ### A slice of strings that can be read -/
theorem flat_le (ss : List ByteArray) (k : Nat) : (((bytesOf ss).take k).flatMap textL).length ≤ sumLen (ss.take k) + 9 * k := by
  induction ss generalizing k with
  | nil => simp [bytesOf]
  | cons s ss ih =>
    cases k with
    | zero => simp
    | succ k =>
      have h1 := ih k
      have h2 := numL_short (BitVec.ofNat 64 s.data.toList.length)
      have h3 := len_list s
      simp only [bytesOf, List.map_cons, List.take_succ_cons, List.flatMap_cons, List.length_append, sumLen, List.sum_cons] at h1 ⊢
      have h4 : (textL s.data.toList).length = (numL (BitVec.ofNat 64 s.data.toList.length)).length + s.data.toList.length := by unfold textL; rw [List.length_append]
      omega
theorem flat_step (ss : List ByteArray) (k : Nat) (h : k < ss.length) : ((bytesOf ss).take k).flatMap textL ++ textL ss[k].data.toList = ((bytesOf ss).take (k + 1)).flatMap textL := by
  have h2 : k < (bytesOf ss).length := by simpa [bytesOf] using h
  rw [List.take_succ_eq_append_getElem h2, List.flatMap_append]
  simp [bytesOf]

set_option maxRecDepth 100000 in
set_option maxHeartbeats 1000000 in
theorem OList_walk (B b : Nat) (l : List UInt8) (ao : Option Addr) (cap : Nat) (ss : List ByteArray) (w : World) (h : OutAt B b l w) (hss : StrsAt w ao ss) (hao : ss ≠ [] → ∀ k off, ao = some ⟨k, off, none⟩ → k < B ∨ (k ≠ b ∧ ∃ cs fz, w.heap[k]? = some (.cells cs 9 fz)))
    (hl : l.length ≤ 1000000) (hn : ss.length ≤ 1000000) (hsum : sumLen ss ≤ 1000000) (hB : B ≤ w.heap.size) :
    Calls Try.prog 19 #[.pointer (some ⟨b, 0, none⟩), .slice ao ss.length cap] w fun e w' =>
      e = .returned (.tuple #[]) ∧ OutAt B b (l ++ listL (bytesOf ss)) w' ∧ Below B w w' ∧ Lib.OthersKept 5 (some b) w w' := by
  have HO := Lib.hid h
  have HS := Lib.hid hss
  have HA := Lib.hid hao
  clear h hss hao
  go_enter Try.func19, Try.ntmps19
  go_wp2_with fail
  refine (ONum_walk B b l _ _ HO.out (by omega) hB).mono ?_
  rintro e w1 ⟨rfl, h1, hb1, hk1⟩
  have H1 := Lib.hid h1
  have HB1 := Lib.hid hb1
  have HK1 := Lib.hid hk1
  clear h1 hb1 hk1
  go_wp2_with fail
  go_loopw [13] (fun i wr => ∃ k : Nat, k ≤ ss.length ∧ i = .int .i64 k ∧ OutAt B b (l ++ numL (BitVec.ofNat 64 ss.length) ++ ((bytesOf ss).take k).flatMap textL) wr ∧ Below B w wr ∧ Lib.OthersKept 5 (some b) w wr) (fun i _ => ss.length - (intOf i).toNat)
  case atStart => exact ⟨0, Nat.zero_le _, rfl, by simpa using H1.out, HB1.out, HK1.out⟩
  case round =>
    obtain ⟨k, hk, rfl, hO, hbel, hkept⟩ := hrel
    have HO2 := Lib.hid hO
    have HB2 := Lib.hid hbel
    have HK2 := Lib.hid hkept
    clear hO hbel hkept
    rcases Nat.lt_or_ge k ss.length with hlt | hge
    · have hS2 : StrsAt wr ao ss := HS.out.keep (fun k off e _ => (HA.out (List.ne_nil_of_length_pos (by omega)) k off e).elim (fun h => HB2.out.block k h) (fun ⟨hne, cs, fz, h⟩ => (HK2.out k _ h (by simpa using hne) (by intro c f e; cases e)).trans h.symm)) HB2.out.size
      obtain ⟨bb, off, rfl, hbl, hcell⟩ := hS2 k hlt
      clear hS2
      have hfl := flat_le ss k
      have hsl := sumLen_take ss k
      have hsg := sumLen_get ss k hlt
      have hnl := numL_short (BitVec.ofNat 64 ss.length)
      have hsize : ss[k].size ≤ 1000000 := by omega
      generalize hsk : ss[k] = s at hcell hsg hsize
      have HSK := Lib.hid hsk
      clear hsk
      go_wp2_with fail
      refine (OText_walk B b _ s _ HO2.out (by omega) (by simp only [List.length_append]; omega) (Nat.le_trans hB HB2.out.size)).mono ?_
      rintro e w2 ⟨rfl, h3, hb3, hk3⟩
      have H3 := Lib.hid h3
      have HB3 := Lib.hid hb3
      have HK3 := Lib.hid hk3
      clear h3 hb3 hk3
      go_wp2_with fail
      go_roundw
      case rel =>
        refine ⟨k + 1, by omega, by go_num, ?_, HB2.out.trans HB3.out, HK2.out.trans HK3.out⟩
        rw [← flat_step ss k hlt, HSK.out, ← List.append_assoc]
        exact H3.out
      case measure => simp [intOf]; omega
    · obtain rfl : k = ss.length := by omega
      go_wp2_with fail
      go_end0
      refine ⟨rfl, ?_, HB2.out, HK2.out⟩
      have e := HO2.out
      rw [List.take_of_length_le (by simp [bytesOf])] at e
      unfold listL
      rw [← List.append_assoc, show (bytesOf ss).length = ss.length by simp [bytesOf]]
      exact e

theorem OString_walk (B b : Nat) (l : List UInt8) (w : World) (h : OutAt B b l w) (hB : B ≤ w.heap.size) :
    Calls Try.prog 20 #[.pointer (some ⟨b, 0, none⟩)] w fun e w' => ∃ r, e = .returned (.string r) ∧ Is r l ∧ OutAt B b l w' ∧ Below B w w' ∧ Lib.OthersKept 5 (some b) w w' :=
  (String_any_k _ B b l w h hB).mono fun _ _ ⟨e1, h1, h2, h3⟩ => ⟨_, e1, Is.of l, h1, h2, h3⟩
end Go.Proofs.Ytfdncifnokkclaa
