/-
  Reference 02 (sha): Pad, Sum.
-/
import Derived.Test.YtdfgcjjaiggpkaaRshaB
import Derived.Test.YtdfgcjjaiggpkaaShaD
import Derived.Deep.LoopGhost
namespace Go.Proofs.Ytdfgcjjaiggpkaa
open Go.RowKit

theorem pad_test (n : BitVec 64) (k : Nat) (hk : k ≤ zerosS n) : (bvi ((n % 64#64 + BitVec.ofNat 64 (k + 1)) % 64#64) != 56) = decide (k < zerosS n) := by
  have hz := zerosS_lt n
  have h0 : (n % 64#64).toNat = n.toNat % 64 := by rw [BitVec.toNat_umod]; rfl
  have h1 : ((n % 64#64 + BitVec.ofNat 64 (k + 1)) % 64#64).toNat = (n.toNat % 64 + (k + 1)) % 64 := by
    rw [BitVec.toNat_umod, BitVec.toNat_add, h0, BitVec.toNat_ofNat]
    show (n.toNat % 64 + (k + 1) % 18446744073709551616) % 18446744073709551616 % 64 = _
    omega
  unfold bvi
  rw [h1]
  unfold zerosS at hk hz ⊢
  generalize n.toNat = m at *
  by_cases h : k < (119 - m % 64) % 64
  · rw [decide_eq_true h, bne_iff_ne]; omega
  · rw [decide_eq_false h, bne_eq_false_iff_eq]; omega
set_option maxRecDepth 100000 in
set_option maxHeartbeats 400000 in
theorem RPad_walk (n : BitVec 64) (q : ByteArray) (hq : Is q (padL n)) (w : World) : Calls Try.prog 23 #[.int .u64 (bvi n)] w fun e w' => e = .returned (.string q) ∧ Below w.heap.size w w' := by
  have HQ := Lib.hid hq
  have hzl := zerosS_lt n
  clear hq
  go_enter Try.func23, Try.ntmps23
  go_wp2_with fail
  go_loopg [3] (zerosS n) (fun g v wr => ∃ (k : Nat) (rs : ByteArray), k + g = zerosS n ∧ v = .string rs ∧ Is rs (128 :: List.replicate k 0) ∧ Below w.heap.size w wr)
  case atStart => exact ⟨0, _, by omega, rfl, rfl, Below.refl _ _⟩
  case round =>
    obtain ⟨k, rs, hkg, rfl, hrs, hb⟩ := hrel
    have hz : rs.size = k + 1 := by rw [hrs.size]; simp
    have hkz : k ≤ zerosS n := by omega
    have ht := pad_test n k hkz
    rw [← hz] at ht
    have HZ := Lib.hid hz
    have HRS := Lib.hid hrs
    have HB := Lib.hid hb
    have hov : ¬ 9223372036854775807 < rs.size + 1 := by omega
    have HK := Lib.hid hkg
    clear hz hrs hb hkg
    rcases Nat.lt_or_ge k (zerosS n) with hlt | hge
    · rw [decide_eq_true hlt] at ht
      go_wp2_with fail
      go_roundg (gk - 1)
      case measure => have := HK.out; omega
      case rel =>
        refine ⟨k + 1, _, by have := HK.out; omega, rfl, ?_, HB.out⟩
        have := HRS.out.append (show Is ⟨#[0]⟩ [0] from rfl)
        rw [List.cons_append, ← List.replicate_succ'] at this
        exact this
    · rw [decide_eq_false (by omega)] at ht
      have HKK := Lib.hid (show k = zerosS n by omega)
      go_wp2_with fail
      refine (RHigh_walk _ 8 _).mono ?_
      rintro e w2 ⟨r, rfl, hr, hb2⟩
      have hrz : r.size = 8 := by rw [hr.size, highL_length]; rfl
      have hov2 : ¬ 9223372036854775807 < rs.size + r.size := by have := HZ.out; omega
      have HR := Lib.hid hr
      have HRZ := Lib.hid hrz
      have HB2 := Lib.hid hb2
      clear hr hrz hb2
      go_wp2_with fail
      go_ret
      refine ⟨ret_val (congrArg Value.string ?_), bthen HB.out HB2.out⟩
      refine Is.inj (HRS.out.append HR.out) ?_
      have e1 : padL n = (128 :: List.replicate k 0) ++ highL (8#64 * n) (cut 8) := by rw [BitVec.mul_comm, HKK.out]; rfl
      rw [← e1]
      exact HQ.out
theorem allS_mod (t : List UInt8) : (allS t).length % 64 = 0 := by
  unfold allS
  rw [List.length_append, padL_length]
  unfold zerosS
  rw [BitVec.toNat_ofNat]
  omega
theorem allS_length (t : List UInt8) : (allS t).length ≤ t.length + 73 := by
  have := zerosS_lt (BitVec.ofNat 64 t.length)
  unfold allS
  rw [List.length_append, padL_length]
  omega
set_option maxRecDepth 100000 in
set_option maxHeartbeats 1000000 in
theorem RSum_walk (s : ByteArray) (hs : s.size ≤ 140737488351232) (q : ByteArray) (hq : Is q (shaL s.data.toList)) (w : World) :
    Calls Try.prog 17 #[.string s] w fun e w' => e = .returned (.string q) ∧ Below w.heap.size w w' := by
  have HQ := Lib.hid hq
  obtain ⟨pd, hpd⟩ : ∃ pd, Is pd (padL (BitVec.ofNat 64 s.size)) := ⟨_, Is.of _⟩
  have HTL := Lib.hid (show s.data.toList.length = s.size by rw [Array.length_toList]; rfl)
  obtain ⟨ab, hab⟩ : ∃ ab, ab = s ++ pd := ⟨_, rfl⟩
  have HA := Lib.hid (show Is ab (allS s.data.toList) by
    rw [hab]
    unfold allS
    rw [HTL.out]
    exact (Is.self s).append hpd)
  have hpz : pd.size ≤ 73 := by have := zerosS_lt (BitVec.ofNat 64 s.size); rw [hpd.size, padL_length]; omega
  have hov : ¬ 9223372036854775807 < s.size + pd.size := by omega
  have hmz : ab.size % 64 = 0 := by rw [HA.out.size]; exact allS_mod _
  have haz : ab.size ≤ 140737488351305 := by have := allS_length s.data.toList; rw [HA.out.size]; rw [HTL.out] at this; omega
  have HPD := Lib.hid hpd
  have HAB := Lib.hid hab
  clear hq hpd hab
  go_enter Try.func17, Try.ntmps17
  go_wp2_with fail
  refine (RPad_walk _ pd HPD.out _).mono ?_
  rintro e w1 ⟨rfl, hb1⟩
  have HB1 := Lib.hid hb1
  clear hb1
  go_wp2_with fail
  rw [← HAB.out]
  refine (RFirst_walk _).mono ?_
  rintro e w2 ⟨rfl, rfl⟩
  have HW1 := Lib.hid (show WdAt (w1.alloc (.cells (words firstS).toArray 25)) (.slice (some ⟨w1.heap.size, 0, none⟩) 8 8) firstS from WdAt.row (RowAt.new w1 _ _ _))
  have HB2 := Lib.hid (below_alloc' HB1.out (.cells (words firstS).toArray 25))
  generalize w1.alloc (.cells (words firstS).toArray 25) = w2 at HW1 HB2 ⊢
  go_wp2_with fail
  go_loopw [4, 5] (fun v i wr => ∃ j : Nat, 64 * j ≤ ab.size ∧ i = .int .i64 (64 * (j : Int)) ∧ WdAt wr v (mixK firstS ab.data.toList j) ∧ Below w.heap.size w wr) (fun _ i _ => ab.size - (intOf i).toNat)
  case atStart => exact ⟨0, by omega, rfl, HW1.out, HB2.out⟩
  case round =>
    obtain ⟨j, hj, rfl, hwd, hb⟩ := hrel
    have HWD := Lib.hid hwd
    have HB := Lib.hid hb
    clear hwd hb
    rcases Nat.lt_or_ge (64 * j) ab.size with hlt | hge
    · have hx := (Is.self ab).extract (64 * j) (64 * j + 64)
      rw [show 64 * j + 64 - 64 * j = 64 by omega] at hx
      have hxz : (ab.extract (64 * j) (64 * j + 64)).size = 64 := by rw [ByteArray.size_extract]; omega
      have hk3 : 64 * (j : Int) + 64 ≤ (ab.size : Int) := by omega
      have hd : decide (64 * (j : Int) < (ab.size : Int)) = true := decide_eq_true (by omega)
      have HX := Lib.hid hx
      have HXZ := Lib.hid hxz
      clear hx hxz
      go_wp2_with fail
      refine (RMix_ok _ (mixK firstS ab.data.toList j) (by rw [mixK_length]; rfl) (ab.extract (64 * j) (64 * j + 64)) HXZ.out _ HWD.out).mono ?_
      rintro e w3 ⟨v3, rfl, hwd3, hb3⟩
      have HWD3 := Lib.hid (show WdAt w3 v3 (mixK firstS ab.data.toList (j + 1)) from by rw [mixK, blockS, ← HX.out.out]; exact hwd3)
      have HB3 := Lib.hid (bthen HB.out hb3)
      clear hwd3 hb3
      go_wp2_with fail
      go_roundw
      case rel => exact ⟨j + 1, by omega, by go_num, HWD3.out, HB3.out⟩
      case measure => simp [intOf]; omega
    · have hj2 : j = ab.size / 64 := by omega
      have hd : decide (64 * (j : Int) < (ab.size : Int)) = false := decide_eq_false (by omega)
      have HQ2 := Lib.hid (show Is q (bytesS (mixK firstS ab.data.toList j) 8) from by
        have h := HQ.out
        unfold shaL at h
        rwa [← HA.out.out, ← (Is.self ab).size, ← hj2] at h)
      have hvl : (mixK firstS ab.data.toList j).length = 8 := by rw [mixK_length]; rfl
      generalize mixK firstS ab.data.toList j = V at HWD HQ2 hvl
      obtain ⟨g, cap, rfl, hg, hc⟩ := HWD.out
      rw [hvl] at hc ⊢
      have HC := Lib.hid hc
      clear hc hvl hj2
      go_wp2_with fail
      obtain ⟨wo, hwo⟩ : ∃ wo : World, wo = wr := ⟨_, rfl⟩
      subst hwo
      go_loopw [6, 7] (fun v i wr => ∃ (k : Nat) (o : ByteArray), k ≤ 8 ∧ i = .int .i64 k ∧ v = .string o ∧ Is o (bytesS V k) ∧ Below wo.heap.size wo wr) (fun _ i _ => 8 - (intOf i).toNat)
      case atStart => exact ⟨0, _, by omega, rfl, rfl, Is.of [], Below.refl _ _⟩
      case round =>
        obtain ⟨k, o, hk, rfl, rfl, ho, hb⟩ := hrel
        have HO := Lib.hid ho
        have HBO := Lib.hid hb
        have hoz : o.size = 4 * k := by rw [ho.size, bytesS_length]
        rcases Nat.lt_or_ge k 8 with hlt | hge
        · have c0 := (hb.cell (p := ⟨g, k, none⟩) hg).trans (HC.out k hlt)
          have HBS := Lib.hid (bytesS_succ V k)
          generalize V.getD k 0 = x at c0 HBS
          have d5 : (k : Int) < 8 := by omega
          have d6 : decide ((k : Int) < 8) = true := decide_eq_true d5
          have hoz2 : o.size ≤ 32 := by omega
          clear ho hb hoz
          go_wp2_with fail
          refine (RHigh_walk _ 4 _).mono ?_
          rintro e w5 ⟨r, rfl, hr, hb5⟩
          have hrz : r.size = 4 := by rw [hr.size, highL_length]; rfl
          have hov2 : ¬ 9223372036854775807 < o.size + r.size := by omega
          have HR := Lib.hid hr
          have HB5 := Lib.hid (bthen HBO.out hb5)
          clear hr hrz hb5
          go_wp2_with fail
          go_roundw
          case rel => exact ⟨k + 1, o ++ r, by omega, by go_num, rfl, by rw [HBS.out]; exact HO.out.append HR.out, HB5.out⟩
          case measure => simp [intOf]; omega
        · obtain rfl : k = 8 := by omega
          have d6 : decide (((8 : Nat) : Int) < 8) = false := rfl
          clear ho hb hoz
          go_wp2_with fail
          go_ret
          exact ⟨ret_val (congrArg Value.string (HO.out.inj HQ2.out)), bthen HB.out HBO.out⟩
end Go.Proofs.Ytdfgcjjaiggpkaa
