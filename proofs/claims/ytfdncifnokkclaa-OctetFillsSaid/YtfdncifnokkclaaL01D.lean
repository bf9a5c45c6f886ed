/-
  Layer 1's laws, walked: OctetFills, OctetSame, OctetParts.
-/
import Derived.Test.YtfdncifnokkclaaL01A
import Derived.RegionCalls
import Derived.Deep.QuietTactic
import Derived.BigQuiet
namespace Go.Proofs.Ytfdncifnokkclaa
open Go.RowKit

theorem fillL_form (l : List UInt8) (n : Int) (h : 1 ≤ n) : ∃ c : Nat, fillL l n = l ++ List.replicate c 0 ∧ ((l.length : Int) + c) % n = 0 ∧ (c : Int) < n := by
  have h2 := Int.emod_nonneg (-(l.length : Int)) (show n ≠ 0 by omega)
  have h3 := Int.emod_lt_of_pos (-(l.length : Int)) (show 0 < n by omega)
  refine ⟨((-(l.length : Int)) % n).toNat, by unfold fillL; rw [if_neg (by omega)], ?_, by omega⟩
  rw [Int.toNat_of_nonneg h2, Int.add_emod, Int.emod_emod_of_dvd _ (Int.dvd_refl n), ← Int.add_emod, Int.add_right_neg, Int.zero_emod]
theorem zero_byte {r : ByteArray} {l : List UInt8} {c : Nat} (hr : Is r (l ++ List.replicate c 0)) (k : Nat) (h : k < r.size) (hl : l.length ≤ k) : (bvi r[k].toBitVec != 0) = false := by
  have e : r[k] = 0 := by
    rw [hr.get k h, List.getElem_append_right hl, List.getElem_replicate]
  rw [e]; rfl

set_option maxRecDepth 100000 in
set_option maxHeartbeats 2000000 in
theorem OctetFills_w (s : ByteArray) (n : BitVec 8) (w : World) :
    Calls Try.prog 13 #[.string s, .int .u8 (bvi n)] w fun e w' => e = .returned (.bool true) ∧ Below w.heap.size w w' := by
  rcases Nat.lt_or_ge 4096 s.size with hbig | hsm
  · go_enter Try.func13, Try.ntmps13
    go_wp2_with fail
    refine (awake01 _).mono ?_
    rintro e w1 ⟨rfl, hb1⟩
    go_wp2_with fail
    go_ret
    exact ⟨rfl, hb1⟩
  · have h0 := bvi_nonneg n
    have h1 : bvi n < 256 := by have := bvi_lt n; simpa using this
    by_cases hz : bvi n = 0
    · have hzb : (bvi n == 0) = true := by rw [beq_iff_eq]; exact hz
      have HZ := Lib.hid hz
      clear hz
      go_enter Try.func13, Try.ntmps13
      go_wp2_with fail
      refine (awake01 _).mono ?_
      rintro e w1 ⟨rfl, hb1⟩
      go_wp2_with fail
      refine (Fill_walk s _ (by omega) (by omega) (by omega) _).mono ?_
      rintro e w2 ⟨r, rfl, hr, hb2⟩
      have q : seq r s = true := by
        refine seq_is hr ?_
        unfold fillL
        rw [HZ.out, if_pos (by omega)]
        exact Is.self s
      go_wp2_with fail
      go_ret
      exact ⟨rfl, bthen hb1 hb2⟩
    · have hzb : (bvi n == 0) = false := by rw [beq_eq_false_iff_ne]; exact hz
      have hp : 1 ≤ bvi n := by omega
      clear hz
      go_enter Try.func13, Try.ntmps13
      go_wp2_with fail
      refine (awake01 _).mono ?_
      rintro e w1 ⟨rfl, hb1⟩
      go_wp2_with fail
      refine (Fill_walk s _ (by omega) (by omega) (by omega) _).mono ?_
      rintro e w2 ⟨r, rfl, hr, hb2⟩
      have hr' := hr
      obtain ⟨c, hc, hmod, hlt⟩ := fillL_form s.data.toList (bvi n) hp
      rw [hc] at hr
      have hl : s.data.toList.length = s.size := by rw [Array.length_toList]; rfl
      rw [hl] at hmod
      have hrs : r.size = s.size + c := by rw [hr.size, List.length_append, List.length_replicate, hl]
      have hrsz : r.size ≤ 5000 := by omega
      have hge : s.size ≤ r.size := by omega
      have hdiff : (r.size : Int) - s.size < bvi n := by omega
      have hmb : ((r.size : Int) % bvi n != 0) = false := by
        rw [hrs, bne_eq_false_iff_eq]; simpa using hmod
      have qpre : seq (r.extract 0 s.size) s = true := by
        refine seq_is (hr.extract 0 s.size) ?_
        rw [List.drop_zero, Nat.sub_zero, List.take_left' hl]
        exact Is.self s
      have HR := Lib.hid hr
      have HR' := Lib.hid hr'
      have HL := Lib.hid hl
      have HRS := Lib.hid hrs
      have HM := Lib.hid hmod
      have HC := Lib.hid hc
      have hcn : 0 ≤ c := Nat.zero_le c
      clear hr hr' hl hrs hmod hc
      go_wp2_with fail
      refine (Fill_walk r _ (by omega) (by omega) (by omega) _).mono ?_
      rintro e w3 ⟨r2, rfl, hr2, hb3⟩
      have q2 : seq r2 r = true := by
        refine seq_is hr2 ?_
        have e : (r.data.toList.length : Int) % bvi n = 0 := by
          rw [Array.length_toList, show r.data.size = r.size from rfl, HRS.out]; simpa using HM.out
        rw [fill_none _ _ hp e]
        exact Is.self r
      go_wp2_with fail
      clear hmb qpre q2 hr2 hzb
      go_loop [7] (fun i => ∃ k : Nat, k ≤ r.size ∧ s.size ≤ k ∧ i = .int .i64 k) (fun i => r.size - (intOf i).toNat)
      case atStart => exact ⟨s.size, hge, Nat.le_refl _, rfl⟩
      case round =>
        obtain ⟨k, hk, hks, rfl⟩ := hrel
        rcases Nat.lt_or_ge k r.size with hlt2 | hge2
        · have hzk := zero_byte HR.out k hlt2 (by rw [HL.out]; exact hks)
          go_wp2_with fail
          go_round
          case rel => exact ⟨k + 1, by omega, by omega, by go_num⟩
          case measure => simp [intOf]; omega
        · obtain rfl : k = r.size := by omega
          go_wp2_with fail
          go_ret
          exact ⟨rfl, bthen (bthen hb1 hb2) hb3⟩
end Go.Proofs.Ytfdncifnokkclaa
