/-
  Layer 12, the reference's package posthornref12: a text, a list; what takes, but for a number.
-/
import Derived.Test.YtfdncifnokkclaaRpack
import Derived.Test.YtfdncifnokkclaaPackN
namespace Go.Proofs.Ytfdncifnokkclaa
open Go.RowKit

set_option maxRecDepth 100000 in
set_option maxHeartbeats 1000000 in
theorem RText_walk (s : ByteArray) (hs : s.size ≤ 140737488351232) (w : World) :
    Calls Try.prog 22 #[.string s] w fun e w' => ∃ r, e = .returned (.string r) ∧ Is r (textL s.data.toList) ∧ r.size ≤ s.size + 9 ∧ Below w.heap.size w w' := by
  go_enter Try.func22, Try.ntmps22
  go_wp2_with fail
  refine (RNum_walk _ _).mono ?_
  rintro e w1 ⟨r, rfl, hr, hb⟩
  have hrs : r.size ≤ 9 := by rw [hr.size]; exact numL_short _
  go_wp2_with fail
  go_ret
  refine ⟨_, rfl, ?_, by rw [ByteArray.size_append]; omega, hb⟩
  unfold textL
  rw [len_list]
  exact hr.append (Is.self s)

set_option maxRecDepth 100000 in
set_option maxHeartbeats 1000000 in
theorem RList_walk (ao : Option Addr) (cap : Nat) (ss : List ByteArray) (w : World) (hss : StrsAt w ao ss)
    (hn : ss.length ≤ 1000000) (hsum : sumLen ss ≤ 1000000) :
    Calls Try.prog 23 #[.slice ao ss.length cap] w fun e w' =>
      ∃ r, e = .returned (.string r) ∧ Is r (listL (bytesOf ss)) ∧ Below w.heap.size w w' := by
  have HS := Lib.hid hss
  clear hss
  go_enter Try.func23, Try.ntmps23
  go_wp2_with fail
  refine (RNum_walk _ _).mono ?_
  rintro e w1 ⟨r0, rfl, hr0, hb1⟩
  have HR0 := Lib.hid hr0
  have HB1 := Lib.hid hb1
  clear hr0 hb1
  go_wp2_with fail
  go_loopw [3, 4] (fun x i wr => ∃ (k : Nat) (r : ByteArray), k ≤ ss.length ∧ i = .int .i64 k ∧ x = .string r ∧ Is r (numL (BitVec.ofNat 64 ss.length) ++ ((bytesOf ss).take k).flatMap textL) ∧ Below w.heap.size w wr) (fun _ i _ => ss.length - (intOf i).toNat)
  case atStart => exact ⟨0, r0, Nat.zero_le _, rfl, rfl, by simpa using HR0.out, HB1.out⟩
  case round =>
    obtain ⟨k, r, hk, rfl, rfl, hO, hbel⟩ := hrel
    have hrz := hO.size
    have HO2 := Lib.hid hO
    have HB2 := Lib.hid hbel
    clear hO hbel
    rcases Nat.lt_or_ge k ss.length with hlt | hge
    · have hS2 : StrsAt wr ao ss := HS.out.keep (fun k off e h => HB2.out.block k h) HB2.out.size
      obtain ⟨bb, off, rfl, hbl, hcell⟩ := hS2 k hlt
      clear hS2
      have hfl := flat_le ss k
      have hsl := sumLen_take ss k
      have hsg := sumLen_get ss k hlt
      have hnl := numL_short (BitVec.ofNat 64 ss.length)
      have hsize : ss[k].size ≤ 1000000 := by omega
      have hrs : r.size ≤ 140737488350000 := by rw [hrz, List.length_append]; omega
      generalize hsk : ss[k] = s at hcell hsg hsize
      have HSK := Lib.hid hsk
      clear hsk hrz hfl hsl hsg hnl
      go_wp2_with fail
      refine (RText_walk s (by omega) _).mono ?_
      rintro e w2 ⟨r2, rfl, hr2, hrs2, hb3⟩
      have H3 := Lib.hid hr2
      have HB3 := Lib.hid hb3
      clear hr2 hb3
      go_wp2_with fail
      go_roundw
      case rel =>
        refine ⟨k + 1, _, by omega, by go_num, rfl, ?_, HB2.out.trans (HB3.out.mono HB2.out.size)⟩
        rw [← flat_step ss k hlt, HSK.out, ← List.append_assoc]
        exact HO2.out.append H3.out
      case measure => simp [intOf]; omega
    · obtain rfl : k = ss.length := by omega
      go_wp2_with fail
      go_ret
      refine ⟨_, rfl, ?_, HB2.out⟩
      have e := HO2.out
      rw [List.take_of_length_le (by simp [bytesOf])] at e
      unfold listL
      rw [show (bytesOf ss).length = ss.length by simp [bytesOf]]
      exact e

/-! ### What takes -/
/-- Block b is a reader of the reference with these bytes left. -/
def RInAt (w : World) (b : Nat) (r : Rd) : Prop := ∃ s, Is s r.l ∧ RowAt w b #[.string s, .bool r.bad] 54 (0, 0)
theorem RInAt.lt {w : World} {b : Nat} {r : Rd} (h : RInAt w b r) : b < w.heap.size := by
  obtain ⟨s, _, hr⟩ := h
  exact hr.lt
theorem RInAt.below {w w' : World} {b : Nat} {r : Rd} (h : RInAt w b r) (hb : Below w.heap.size w w') : RInAt w' b r := by
  obtain ⟨s, hs, hr⟩ := h
  exact ⟨s, hs, hr.below hb hr.lt⟩
theorem RInAt.cells {w : World} {b : Nat} {r : Rd} (h : RInAt w b r) : ∃ s, Is s r.l ∧ RowAt w b #[.string s, .bool r.bad] 54 (0, 0) ∧ w.cell? ⟨b, 0, none⟩ = some (.string s) ∧ w.cell? ⟨b, 1, none⟩ = some (.bool r.bad) := by
  obtain ⟨s, hs, hr⟩ := h
  exact ⟨s, hs, hr, hr.cell (i := 0) rfl, hr.cell (i := 1) rfl⟩

set_option maxHeartbeats 400000 in
theorem Rfail_walk (b : Nat) (s : ByteArray) (x : Bool) (w : World) (h : RowAt w b #[.string s, .bool x] 54 (0, 0)) :
    Calls Try.prog 59 #[.pointer (some ⟨b, 0, none⟩)] w fun e w' => e = .returned (.tuple #[]) ∧ RInAt w' b Rd.broken ∧ Only b w w' := by
  have c0 := h.cell (i := 0) rfl
  have c1 := h.cell (i := 1) rfl
  have f0 := h.free (i := 0) (by simp)
  have f1 := h.free (i := 1) (by simp)
  have h2 := (h.store 1 (.bool true)).store 0 (.string ⟨#[]⟩)
  have H2 := Lib.hid h2
  clear h h2
  go_enter Try.func59, Try.ntmps59
  go_wp2
  go_end0
  exact ⟨rfl, ⟨_, Is.of [], H2.out⟩, ((Only.refl b w).setCell rfl _).setCell rfl _⟩

set_option maxHeartbeats 400000 in
theorem RDone_walk (b : Nat) (r : Rd) (w : World) (h : RInAt w b r) :
    Calls Try.prog 36 #[.pointer (some ⟨b, 0, none⟩)] w fun e w' => e = .returned (.int .i64 (doneR r)) ∧ w = w' := by
  obtain ⟨s, hs, hr⟩ := h
  obtain ⟨l, x⟩ := r
  have c0 := hr.cell (i := 0) rfl
  have c1 := hr.cell (i := 1) rfl
  have hz := hs.size
  clear hr hs
  cases x
  · cases l with
    | nil =>
      have hz2 : s.size = 0 := hz
      clear hz
      go_enter Try.func36, Try.ntmps36
      go_wp2
      go_ret
      exact ⟨rfl, rfl⟩
    | cons y t =>
      have hz2 : 0 < s.size := by rw [hz]; simp
      clear hz
      go_enter Try.func36, Try.ntmps36
      go_wp2
      go_ret
      exact ⟨rfl, rfl⟩
  · clear hz
    go_enter Try.func36, Try.ntmps36
    go_wp2
    go_ret
    exact ⟨rfl, rfl⟩
end Go.Proofs.Ytfdncifnokkclaa
