/-
  The program's sha: First, Pad.
-/
import Derived.Test.YtdfgcjjaiggpkaaPlainS
import Derived.Test.YtdfgcjjaiggpkaaOctetB
import Derived.Test.YtdfgcjjaiggpkaaChacha
namespace Go.Proofs.Ytdfgcjjaiggpkaa
open Go.RowKit

set_option maxHeartbeats 1000000 in
theorem First_walk (w : World) : Calls Try.prog 21 #[] w fun e w' => e = .returned (.agg (words firstS).toArray) ∧ Below w.heap.size w w' := by
  go_enter Try.func21, Try.ntmps21
  go_wp2_with fail
  exact bodyPost_ret (v := .agg (words firstS).toArray) (results_cell_row rfl _ _ w.heap.size 27 (words firstS).toArray (0, 0) _ (by kernel_rfl) (heap_alloc_last w _) Try.underlying27 rfl (by kernel_rfl)) rfl ⟨rfl, (Below.refl _ _).alloc (Nat.le_refl _) _⟩

theorem zerosS_lt (n : BitVec 64) : zerosS n < 64 := Nat.mod_lt _ (by decide)
theorem zerosS_is (n : BitVec 64) : wrap64 (bvi ((119#64 - n % 64#64) % 64#64)) = ((zerosS n : Nat) : Int) := by
  have h0 : (n % 64#64).toNat = n.toNat % 64 := by rw [BitVec.toNat_umod]; rfl
  have h1 : (119#64 - n % 64#64).toNat = 119 - n.toNat % 64 := by
    rw [BitVec.toNat_sub, h0]
    show (18446744073709551616 - n.toNat % 64 + 119) % 18446744073709551616 = _
    omega
  have h2 : ((119#64 - n % 64#64) % 64#64).toNat = zerosS n := by rw [BitVec.toNat_umod, h1]; rfl
  have h3 := zerosS_lt n
  show wrap64 ((((119#64 - n % 64#64) % 64#64).toNat : Nat) : Int) = _
  rw [h2]
  exact IntWalk.wrap64_in _ (by omega)

set_option maxHeartbeats 1000000 in
theorem Pad_walk (n : BitVec 64) (w : World) : Calls Try.prog 22 #[.int .u64 (bvi n)] w fun e w' => ∃ r, e = .returned (.string r) ∧ Is r (padL n) ∧ Below w.heap.size w w' := by
  have HZ := Lib.hid (zerosS_is n)
  have hz := zerosS_lt n
  go_enter Try.func22, Try.ntmps22
  go_wp2_with fail
  rw [HZ.out]
  refine (Repeat_walk _ (zerosS n) _ (by omega) (by show 1 * zerosS n ≤ _; omega)).mono ?_
  rintro e w1 ⟨rfl, hb⟩
  have hr := Is.of (Lib.repeatL (ByteArray.mk #[0]).data.toList (zerosS n))
  generalize ByteArray.mk (Lib.repeatL (ByteArray.mk #[0]).data.toList (zerosS n)).toArray = r at hr ⊢
  rw [show (ByteArray.mk #[0]).data.toList = [0] from rfl, repeatL_one] at hr
  have hrs : r.size ≤ 64 := by rw [hr.size, List.length_replicate]; omega
  have HR := Lib.hid hr
  have HB := Lib.hid hb
  clear hr hb
  go_wp2_with fail
  refine (High_walk _ 8 _).mono ?_
  rintro e w2 ⟨q, rfl, hq, hb2⟩
  have hqs : q.size ≤ 8 := by rw [hq.size, highL_length]; decide
  have HQ := Lib.hid hq
  have HB2 := Lib.hid (bthen HB.out hb2)
  clear hq hb2
  go_wp2_with fail
  go_ret
  refine ⟨_, rfl, ?_, HB2.out⟩
  have e1 : padL n = [128] ++ List.replicate (zerosS n) 0 ++ highL (8#64 * n) (cut 8) := by rw [BitVec.mul_comm]; rfl
  rw [e1]
  exact (Is.append (show Is ⟨#[128]⟩ [128] from rfl) HR.out).append HQ.out
end Go.Proofs.Ytdfgcjjaiggpkaa
