/-
  Layer 1, the program's package octet: Xor, Same, Fill.
-/
import Derived.Test.YtfglhemmccihfaaOctet
import Derived.Test.YtfglhemmccihfaaShelf
namespace Go.Proofs.Ytfglhemmccihfaa
open Go.RowKit

theorem u8_xor_bvi (a b : UInt8) : BitVec.ofInt 8 (bvi a.toBitVec) ^^^ BitVec.ofInt 8 (bvi b.toBitVec) = (a ^^^ b).toBitVec := by
  rw [ofInt_bvi_same, ofInt_bvi_same]; rfl

set_option maxHeartbeats 1000000 in
theorem Xor_ok (a b : ByteArray) (h : a.size = b.size) (hm : a.size ≤ 140737488355328) (w : World) :
    Calls Try.prog 50 #[.string a, .string b] w fun e w' => ∃ r, e = .returned (.tuple #[.string r, .int .i64 0]) ∧ Is r (xorL a.data.toList b.data.toList) ∧ Below w.heap.size w w' := by
  have hcv := run_bytes_of_string (P := Try.prog) w 9 32 5 a Try.underlying9 Try.underlying32 Try.underlying5
  have hrow0 := (RowAt.new w (bytesRow a (grownCap w a.size 0 5)) 5 ((bytesRow a (grownCap w a.size 0 5)).size, (bytesRow a (grownCap w a.size 0 5)).size + 1)).drew
  have ht0 := bytesRow_take a (grownCap w a.size 0 5)
  have hs0 := bytesRow_size a (grownCap w a.size 0 5)
  generalize grownCap w a.size 0 5 = cap at hcv hrow0 ht0 hs0
  generalize bytesRow a cap = row at hcv hrow0 ht0 hs0
  have hla : a.data.toList.length = a.size := by rw [Array.length_toList]; rfl
  have hlb : b.data.toList.length = b.size := by rw [Array.length_toList]; rfl
  have hne : ((a.size : Int) != (b.size : Int)) = false := by simp [h]
  have H := Lib.hid h; clear h
  have HA := Lib.hid hla; clear hla
  have HB := Lib.hid hlb; clear hlb
  have HT := Lib.hid ht0; clear ht0
  go_enter Try.func50, Try.ntmps50
  go_wp2
  clear hcv
  go_loopw [17] (fun i wr => ∃ k : Nat, k ≤ a.size ∧ i = .int .i64 k ∧ (∃ cs : Array Value, cs.size = row.size ∧ cs.toList.take a.size = cells (mixL a.data.toList b.data.toList k) ∧ RowAt wr w.heap.size cs 5 (row.size, row.size + 1)) ∧ Below w.heap.size w wr) (fun i _ => a.size - (intOf i).toNat)
  case atStart => exact ⟨0, Nat.zero_le _, rfl, ⟨row, rfl, by rw [mixL_zero, HT.out], hrow0⟩, ((Below.refl _ _).alloc (Nat.le_refl _) _).drew⟩
  case round =>
    clear hrow0
    obtain ⟨k, hk, rfl, ⟨cs, hcs, hct, hrow⟩, hbel⟩ := hrel
    have HC := Lib.hid hcs; clear hcs
    have HT2 := Lib.hid hct; clear hct
    rcases Nat.lt_or_ge k a.size with hlt | hge
    · have hkb : k < b.size := by have := H.out; omega
      have c1 := hrow.cell (take_cell HT2.out (i := k) (by rw [mixL_length, HA.out]; exact hlt) hlt)
      rw [mixL_get, if_neg (Nat.lt_irrefl k)] at c1
      have f1 := hrow.free (i := k) (by simp; omega)
      clear hs0
      go_wp2
      go_region
      go_wp2
      go_roundw
      case rel =>
        refine ⟨k + 1, by omega, by go_num, ⟨cs.setIfInBounds k (u8c (a.data.toList.getD k 0 ^^^ b.data.toList.getD k 0)), by rw [Array.size_setIfInBounds, HC.out], by rw [take_set HT2.out, mixL_step], ?_⟩, (hbel.setCell (p := ⟨_, _, _⟩) (Nat.le_refl _) _).drew⟩
        have e := (hrow.store k (u8c (a.data.toList.getD k 0 ^^^ b.data.toList.getD k 0))).drew
        rw [getD_byte a k hlt, getD_byte b k hkb] at e ⊢
        exact e
      case measure => simp [intOf]; omega
    · obtain rfl : k = a.size := by omega
      have hm2 := HT2.out
      rw [← HA.out, mixL_full _ _ (by rw [HA.out, HB.out, H.out]), HA.out] at hm2
      have hst := run_str (P := Try.prog) wr 32 5 Try.underlying32 Try.underlying5 9 Try.underlying9 w.heap.size a.size cap _ 5 _ _ hrow (by
        simp only [xorL, List.length_zipWith]; rw [HA.out, HB.out, H.out, Nat.min_self]) hm2
      clear hm2 HT2
      go_wp2
      go_ret2
      exact ⟨_, rfl, Is.of _, hbel⟩

set_option maxHeartbeats 400000 in
theorem Xor_no (a b : ByteArray) (h : a.size ≠ b.size) (w : World) :
    Calls Try.prog 50 #[.string a, .string b] w fun e w' => e = .returned (.tuple #[.string ByteArray.empty, .int .i64 5]) ∧ w = w' := by
  have hne : ((a.size : Int) != (b.size : Int)) = true := by simp; omega
  clear h
  go_enter Try.func50, Try.ntmps50
  go_wp2
  go_ret2
  exact ⟨rfl, rfl⟩

theorem or_zero8 (u x : BitVec 8) : u ||| x = 0#8 ↔ u = 0#8 ∧ x = 0#8 := BitVec.or_eq_zero_iff
theorem xor_zero8 (a b : UInt8) : a.toBitVec ^^^ b.toBitVec = 0#8 ↔ a = b := by
  rw [BitVec.xor_eq_zero_iff]
  exact ⟨UInt8.toBitVec_inj.1, fun e => by rw [e]⟩
theorem same_step (a b : ByteArray) (k : Nat) (ha : k < a.size) (hb : k < b.size) (u : BitVec 8) (h : u = 0#8 ↔ a.data.toList.take k = b.data.toList.take k) :
    u ||| (a[k].toBitVec ^^^ b[k].toBitVec) = 0#8 ↔ a.data.toList.take (k + 1) = b.data.toList.take (k + 1) := by
  rw [or_zero8, xor_zero8, take_step a k ha, take_step b k hb, h]
  constructor
  · rintro ⟨h1, h2⟩; rw [h1, h2]
  · intro e
    have := List.append_inj' e rfl
    exact ⟨this.1, by simpa using this.2⟩

set_option maxHeartbeats 1000000 in
theorem Same_walk (a b : ByteArray) (hm : a.size ≤ 140737488355328) (w : World) :
    Calls Try.prog 42 #[.string a, .string b] w fun e w' => e = .returned (.bool (seq a b)) ∧ Below w.heap.size w w' := by
  by_cases h : a.size = b.size
  · have hne : ((a.size : Int) != (b.size : Int)) = false := by simp [h]
    have H := Lib.hid h; clear h
    go_enter Try.func42, Try.ntmps42
    go_wp2
    go_loopw [5, 14] (fun u i wr => ∃ k : Nat, k ≤ a.size ∧ i = .int .i64 k ∧ (∃ x : BitVec 8, u = .int .u8 (bvi x) ∧ (x = 0#8 ↔ a.data.toList.take k = b.data.toList.take k)) ∧ Below w.heap.size w wr) (fun _ i _ => a.size - (intOf i).toNat)
    case atStart => exact ⟨0, Nat.zero_le _, rfl, ⟨0#8, rfl, by simp⟩, Below.refl _ _⟩
    case round =>
      obtain ⟨k, hk, rfl, ⟨x, rfl, hx⟩, hbel⟩ := hrel
      have HX := Lib.hid hx; clear hx
      rcases Nat.lt_or_ge k a.size with hlt | hge
      · have hkb : k < b.size := by have := H.out; omega
        go_wp2
        go_region
        go_wp2
        go_roundw
        case rel => exact ⟨k + 1, by omega, by go_num, ⟨_, rfl, same_step a b k hlt hkb x HX.out⟩, hbel.drew⟩
        case measure => simp [intOf]; omega
      · obtain rfl : k = a.size := by omega
        go_wp2
        go_ret
        refine ⟨?_, hbel⟩
        refine ret_bool ?_
        have e := HX.out
        rw [take_all, H.out, take_all] at e
        rw [Bool.eq_iff_iff, beq_iff_eq, show (0 : Int) = bvi (0#8) from rfl, bvi_inj, e]
        simp [seq]
  · have hne : ((a.size : Int) != (b.size : Int)) = true := by simp; omega
    have hs : seq a b = false := seq_no.2 fun e => h (by rw [e])
    clear h
    go_enter Try.func42, Try.ntmps42
    go_wp2
    go_ret
    exact ⟨ret_bool hs.symm, Below.refl _ _⟩

set_option maxHeartbeats 1000000 in
theorem Fill_walk (s : ByteArray) (n : Int) (hs : s.size ≤ 140737488351232) (hn : n ≤ 1048576) (hn0 : -9223372036854775808 ≤ n) (w : World) :
    Calls Try.prog 67 #[.string s, .int .i64 n] w fun e w' => ∃ r, e = .returned (.string r) ∧ Is r (fillL s.data.toList n) ∧ Below w.heap.size w w' := by
  have hl : s.data.toList.length = s.size := by rw [Array.length_toList]; rfl
  by_cases h1 : n < 1
  · go_enter Try.func67, Try.ntmps67
    go_wp2_with fail
    go_ret
    exact ⟨s, rfl, by unfold fillL; rw [if_pos h1]; exact Is.self s, Below.refl _ _⟩
  · have h1' : 1 ≤ n := by omega
    have h2 := Int.emod_nonneg (s.size : Int) (show n ≠ 0 by omega)
    have h3 := Int.emod_lt_of_pos (s.size : Int) (show 0 < n by omega)
    by_cases h0 : (s.size : Int) % n = 0
    · have F := Lib.hid (fill_none s.data.toList n h1' (by rw [hl]; exact h0))
      have h0b : ((s.size : Int) % n == 0) = true := by rw [beq_iff_eq]; exact h0
      clear h0 hl
      go_enter Try.func67, Try.ntmps67
      go_wp2_with fail
      go_ret
      exact ⟨s, rfl, by rw [F.out]; exact Is.self s, Below.refl _ _⟩
    · have F := Lib.hid (fill_some s.data.toList n h1' (by rw [hl]; exact h0))
      have h0b : ((s.size : Int) % n == 0) = false := by rw [beq_eq_false_iff_ne]; exact h0
      have HL := Lib.hid hl
      clear h0 hl
      go_enter Try.func67, Try.ntmps67
      go_wp2_with fail
      obtain ⟨c, hc⟩ : ∃ c : Nat, n - (s.size : Int) % n = (c : Int) := ⟨_, (Int.toNat_of_nonneg (by omega)).symm⟩
      have hc2 : c ≤ 1048576 := by omega
      rw [hc]
      refine (Repeat_walk _ c _ (by omega) (by show 1 * c ≤ _; omega)).mono ?_
      rintro e w1 ⟨rfl, hb⟩
      have hr := Is.of (Lib.repeatL (ByteArray.mk #[0]).data.toList c)
      generalize ByteArray.mk (Lib.repeatL (ByteArray.mk #[0]).data.toList c).toArray = r at hr ⊢
      rw [show (ByteArray.mk #[0]).data.toList = [0] from rfl, repeatL_one] at hr
      have hrs : r.size ≤ 1048576 := by rw [hr.size, List.length_replicate]; exact hc2
      have HC := Lib.hid hc; clear hc
      go_wp2
      go_ret
      refine ⟨_, rfl, ?_, hb⟩
      rw [F.out, HL.out, HC.out, Int.toNat_natCast]
      exact (Is.self s).append hr
end Go.Proofs.Ytfglhemmccihfaa
