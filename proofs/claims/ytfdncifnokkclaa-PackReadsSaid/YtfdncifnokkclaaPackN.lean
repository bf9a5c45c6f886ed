/-
  Layer 12, the program's package pack: a number taken.
-/
import Derived.Test.YtfdncifnokkclaaPackR
import Derived.Deep.QuietTactic
import Derived.BigQuiet
import Derived.Deep.RegionLaw
namespace Go.Proofs.Ytfdncifnokkclaa
open Go.RowKit

theorem only_drewN {b n : Nat} {w w' : World} (h : Only b (w.drewN n) w') : Only b w w' := ⟨h.os, h.tape, h.output, h.size, h.block⟩
theorem numR_bad (l : List UInt8) (most : BitVec 64) : numR ⟨l, true⟩ most = (0#64, Rd.broken) := rfl
theorem numR_nil (most : BitVec 64) : numR ⟨[], false⟩ most = (0#64, Rd.broken) := rfl
theorem numR_cons (h : UInt8) (t : List UInt8) (most : BitVec 64) : numR ⟨h :: t, false⟩ most =
    if 8 < h.toNat ∨ t.length < h.toNat then (0#64, Rd.broken)
    else if needN (hiV (t.take h.toNat)).toNat ≠ h.toNat ∨ most < hiV (t.take h.toNat) then (0#64, Rd.broken)
    else (hiV (t.take h.toNat), ⟨t.drop h.toNat, false⟩) := rfl

/-- A reader's cells, for a walk. -/
theorem InAt.cells {w : World} {b : Nat} {r : Rd} (h : InAt w b r) : ∃ s, Is s r.l ∧ RowAt w b #[.string s, .bool r.bad] 47 (0, 0) ∧ w.cell? ⟨b, 1, none⟩ = some (.bool r.bad) := by
  obtain ⟨s, hs, hr⟩ := h
  exact ⟨s, hs, hr, hr.cell (i := 1) rfl⟩

set_option maxHeartbeats 1000000 in
/-- .. where it is broken at the first byte. -/
theorem Num_at1 (b : Nat) (r : Rd) (most : BitVec 64) (w : World) (h : InAt w b r) (hl : r.l.length ≤ 140737488351232) (hb : (takeR r 1).2 = Rd.broken) :
    Calls Try.prog 27 #[.pointer (some ⟨b, 0, none⟩), .int .u64 (bvi most)] w fun e w' => e = .returned (.int .u64 (bvi (0#64))) ∧ InAt w' b Rd.broken ∧ Only b w w' := by
  have HI := Lib.hid h
  have HB := Lib.hid hb
  clear h hb
  go_enter Try.func27, Try.ntmps27
  go_wp2_with fail
  refine (take_walk b r 1 _ HI.out hl).mono ?_
  rintro e w1 ⟨s1, rfl, hs1, h1, ho1⟩
  rw [HB.out] at h1
  obtain ⟨s2, hs2, hr2, c1⟩ := h1.cells
  have HR2 := Lib.hid hr2
  have HO1 := Lib.hid ho1
  clear hs1 hs2 hr2 h1 ho1
  rw [show Rd.broken.bad = true from rfl] at c1
  go_wp2_with fail
  refine (fail_walk b s2 true _ HR2.out).mono ?_
  rintro e w2 ⟨rfl, h2, ho2⟩
  go_wp2_with fail
  go_ret
  exact ⟨rfl, h2, HO1.out.trans ho2⟩

set_option maxHeartbeats 2000000 in
theorem Num_head (b : Nat) (h : UInt8) (t : List UInt8) (most : BitVec 64) (w : World) (hI : InAt w b ⟨h :: t, false⟩) (hl : t.length ≤ 140737488351000) :
    Calls Try.prog 27 #[.pointer (some ⟨b, 0, none⟩), .int .u64 (bvi most)] w fun e w' =>
      e = .returned (.int .u64 (bvi (numR ⟨h :: t, false⟩ most).1)) ∧ InAt w' b (numR ⟨h :: t, false⟩ most).2 ∧ Only b w w' := by
  have HI := Lib.hid hI
  clear hI
  have HT1 : takeR ⟨h :: t, false⟩ 1 = ([h], ⟨t, false⟩) := by simp [takeR]
  by_cases h8 : 8 < h.toNat
  · have HN := Lib.hid (show numR ⟨h :: t, false⟩ most = (0#64, Rd.broken) by rw [numR_cons, if_pos (Or.inl h8)])
    go_enter Try.func27, Try.ntmps27
    go_wp2_with fail
    refine (take_walk b _ 1 _ HI.out (by simp; omega)).mono ?_
    rintro e w1 ⟨s1, rfl, hs1, h1, ho1⟩
    rw [HT1] at hs1 h1
    obtain ⟨s2, hs2, hr2, c1⟩ := h1.cells
    have z1 : s1.size = 1 := hs1.size
    have z2 : 0 < s1.size := by omega
    have g0 : (8 : Int) < bvi (s1[0]'z2).toBitVec := by rw [hs1.get 0 z2]; show (8 : Int) < (h.toNat : Int); omega
    have HR2 := Lib.hid hr2
    have HO1 := Lib.hid ho1
    clear hs1 hs2 hr2 h1 ho1 HT1
    go_wp2_with fail
    refine (fail_walk b s2 false _ HR2.out).mono ?_
    rintro e w2 ⟨rfl, h2, ho2⟩
    go_wp2_with fail
    go_ret
    exact ⟨by rw [HN.out]; rfl, by rw [HN.out]; exact h2, HO1.out.trans ho2⟩
  · have hk8 : h.toNat ≤ 8 := by omega
    have hgk : bvi h.toBitVec = (h.toNat : Int) := rfl
    generalize hk : h.toNat = k at hk8 hgk
    have HK := Lib.hid hk
    have HG := Lib.hid hgk
    clear h8 hk hgk
    rcases Nat.lt_or_ge t.length k with hlt | hge
    · have HN := Lib.hid (show numR ⟨h :: t, false⟩ most = (0#64, Rd.broken) by rw [numR_cons, HK.out, if_pos (Or.inr hlt)])
      have HT2 : takeR ⟨t, false⟩ k = ([], Rd.broken) := by unfold takeR; rw [if_pos (Or.inr hlt)]
      go_enter Try.func27, Try.ntmps27
      go_wp2_with fail
      refine (take_walk b _ 1 _ HI.out (by simp; omega)).mono ?_
      rintro e w1 ⟨s1, rfl, hs1, h1, ho1⟩
      rw [HT1] at hs1 h1
      obtain ⟨s2, hs2, hr2, c1⟩ := h1.cells
      have z1 : s1.size = 1 := hs1.size
      have z2 : 0 < s1.size := by omega
      have g0 : bvi (s1[0]'z2).toBitVec = (k : Int) := by rw [hs1.get 0 z2]; exact HG.out
      have HO1 := Lib.hid ho1
      have H1 := Lib.hid h1
      have HT2' := Lib.hid HT2
      clear hs1 hs2 hr2 h1 ho1 HT1 HT2
      go_wp2_with fail
      refine (take_walk b _ k _ H1.out (by simp; omega)).mono ?_
      rintro e w2 ⟨s3, rfl, hs3, h3, ho3⟩
      rw [HT2'.out] at hs3 h3
      obtain ⟨s4, hs4, hr4, c4⟩ := h3.cells
      have z3 : s3.size ≤ 8 := by rw [hs3.size]; decide
      have HR4 := Lib.hid hr4
      have HO3 := Lib.hid ho3
      have c4' : w2.cell? ⟨b, 1, none⟩ = some (.bool true) := c4
      clear hs3 hs4 hr4 h3 ho3 c4
      go_wp2_with fail
      refine (FromHigh_ok s3 z3 _).mono ?_
      rintro e w3 ⟨rfl, rfl⟩
      go_wp2_with fail
      go_quiet (fail)
      go_wp2_with fail
      refine (fail_walk b s4 true (w2.drewN nq) HR4.out).mono ?_
      rintro e w5 ⟨rfl, h5, ho5⟩
      have HO5 : Only b w2 w5 := only_drewN ho5
      go_wp2_with fail
      go_ret
      exact ⟨by rw [HN.out]; rfl, by rw [HN.out]; exact h5, (HO1.out.trans HO3.out).trans HO5⟩
    · have HT2 : takeR ⟨t, false⟩ k = (t.take k, ⟨t.drop k, false⟩) := by unfold takeR; rw [if_neg (by simp; omega)]
      have hN0 : numR ⟨h :: t, false⟩ most = if needN (hiV (t.take k)).toNat ≠ k ∨ most < hiV (t.take k) then (0#64, Rd.broken) else (hiV (t.take k), ⟨t.drop k, false⟩) := by
        rw [numR_cons, HK.out, if_neg (by omega)]
      have htk : (t.take k).length = k := by simp; omega
      generalize hv : hiV (t.take k) = v at hN0
      have HV := Lib.hid hv
      have HTK := Lib.hid htk
      clear hv htk
      by_cases hneed : needN v.toNat = k
      · have NQ := Lib.hid (show ∀ wx, Calls Try.prog 56 #[.int .u64 (bvi v)] wx fun e w' => e = .returned (.int .i64 k) ∧ wx = w' from fun wx => by
          have := need_walk v wx
          rwa [hneed] at this)
        have HNEED := Lib.hid hneed
        have hw : IntKind.i64.wrap (k : Int) = (k : Int) := IntWalk.i64_in _ (by omega)
        clear hneed
        by_cases hmost : most < v
        · have HN := Lib.hid (show numR ⟨h :: t, false⟩ most = (0#64, Rd.broken) by rw [hN0, if_pos (Or.inr hmost)])
          have hgt : bvi most < bvi v := by have := BitVec.lt_def.1 hmost; unfold bvi; omega
          clear hN0 hmost
          go_enter Try.func27, Try.ntmps27
          go_wp2_with fail
          refine (take_walk b _ 1 _ HI.out (by simp; omega)).mono ?_
          rintro e w1 ⟨s1, rfl, hs1, h1, ho1⟩
          rw [HT1] at hs1 h1
          obtain ⟨s2, hs2, hr2, c1⟩ := h1.cells
          have z1 : s1.size = 1 := hs1.size
          have z2 : 0 < s1.size := by omega
          have g0 : bvi (s1[0]'z2).toBitVec = (k : Int) := by rw [hs1.get 0 z2]; exact HG.out
          have HO1 := Lib.hid ho1
          have H1 := Lib.hid h1
          have HT2' := Lib.hid HT2
          clear hs1 hs2 hr2 h1 ho1 HT1 HT2
          go_wp2_with fail
          refine (take_walk b _ k _ H1.out (by simp; omega)).mono ?_
          rintro e w2 ⟨s3, rfl, hs3, h3, ho3⟩
          rw [HT2'.out] at hs3 h3
          obtain ⟨s4, hs4, hr4, c4⟩ := h3.cells
          have z3 : s3.size ≤ 8 := by rw [hs3.size, HTK.out]; exact hk8
          have HR4 := Lib.hid hr4
          have HO3 := Lib.hid ho3
          have HV2 := Lib.hid (show hiV s3.data.toList = v by rw [hs3.out]; exact HV.out)
          clear hs3 hs4 hr4 h3 ho3
          go_wp2_with fail
          refine (FromHigh_ok s3 z3 _).mono ?_
          rintro e w3 ⟨rfl, rfl⟩
          rw [HV2.out]
          go_wp2_with fail
          go_quiet ((go_at_call 56; exact quiet_left (NQ.out _)))
          go_wp2_with fail
          refine (fail_walk b s4 false (w2.drewN nq) HR4.out).mono ?_
          rintro e w5 ⟨rfl, h5, ho5⟩
          have HO5 : Only b w2 w5 := only_drewN ho5
          go_wp2_with fail
          go_ret
          exact ⟨by rw [HN.out]; rfl, by rw [HN.out]; exact h5, (HO1.out.trans HO3.out).trans HO5⟩
        · have HN := Lib.hid (show numR ⟨h :: t, false⟩ most = (v, ⟨t.drop k, false⟩) by rw [hN0, if_neg (by rintro (e | e); exact e HNEED.out; exact hmost e)])
          have hgt : bvi v ≤ bvi most := by have := mt BitVec.lt_def.2 hmost; unfold bvi; omega
          clear hN0 hmost
          go_enter Try.func27, Try.ntmps27
          go_wp2_with fail
          refine (take_walk b _ 1 _ HI.out (by simp; omega)).mono ?_
          rintro e w1 ⟨s1, rfl, hs1, h1, ho1⟩
          rw [HT1] at hs1 h1
          obtain ⟨s2, hs2, hr2, c1⟩ := h1.cells
          have z1 : s1.size = 1 := hs1.size
          have z2 : 0 < s1.size := by omega
          have g0 : bvi (s1[0]'z2).toBitVec = (k : Int) := by rw [hs1.get 0 z2]; exact HG.out
          have HO1 := Lib.hid ho1
          have H1 := Lib.hid h1
          have HT2' := Lib.hid HT2
          clear hs1 hs2 hr2 h1 ho1 HT1 HT2
          go_wp2_with fail
          refine (take_walk b _ k _ H1.out (by simp; omega)).mono ?_
          rintro e w2 ⟨s3, rfl, hs3, h3, ho3⟩
          rw [HT2'.out] at hs3 h3
          obtain ⟨s4, hs4, hr4, c4⟩ := h3.cells
          have z3 : s3.size ≤ 8 := by rw [hs3.size, HTK.out]; exact hk8
          have HR4 := Lib.hid hr4
          have HO3 := Lib.hid ho3
          have H3 := Lib.hid h3
          have HV2 := Lib.hid (show hiV s3.data.toList = v by rw [hs3.out]; exact HV.out)
          clear hs3 hs4 hr4 h3 ho3
          go_wp2_with fail
          refine (FromHigh_ok s3 z3 _).mono ?_
          rintro e w3 ⟨rfl, rfl⟩
          rw [HV2.out]
          go_wp2_with fail
          go_quiet ((go_at_call 56; exact quiet_left (NQ.out _)))
          go_wp2_with fail
          go_ret
          exact ⟨by rw [HN.out]; rfl, by rw [HN.out]; exact H3.out, (HO1.out.trans HO3.out).trans (only_drewN (Only.refl _ _))⟩
      · have NQ := Lib.hid (need_walk v)
        have HN := Lib.hid (show numR ⟨h :: t, false⟩ most = (0#64, Rd.broken) by rw [hN0, if_pos (Or.inl hneed)])
        have hw : IntKind.i64.wrap (k : Int) = (k : Int) := IntWalk.i64_in _ (by omega)
        generalize needN v.toNat = M at NQ hneed
        have hne1 : ((M : Int) != (k : Int)) = true := by rw [bne_iff_ne]; omega
        have hne2 : ((M : Int) == (k : Int)) = false := by rw [beq_eq_false_iff_ne]; omega
        clear hN0
        go_enter Try.func27, Try.ntmps27
        go_wp2_with fail
        refine (take_walk b _ 1 _ HI.out (by simp; omega)).mono ?_
        rintro e w1 ⟨s1, rfl, hs1, h1, ho1⟩
        rw [HT1] at hs1 h1
        obtain ⟨s2, hs2, hr2, c1⟩ := h1.cells
        have z1 : s1.size = 1 := hs1.size
        have z2 : 0 < s1.size := by omega
        have g0 : bvi (s1[0]'z2).toBitVec = (k : Int) := by rw [hs1.get 0 z2]; exact HG.out
        have HO1 := Lib.hid ho1
        have H1 := Lib.hid h1
        have HT2' := Lib.hid HT2
        clear hs1 hs2 hr2 h1 ho1 HT1 HT2
        go_wp2_with fail
        refine (take_walk b _ k _ H1.out (by simp; omega)).mono ?_
        rintro e w2 ⟨s3, rfl, hs3, h3, ho3⟩
        rw [HT2'.out] at hs3 h3
        obtain ⟨s4, hs4, hr4, c4⟩ := h3.cells
        have z3 : s3.size ≤ 8 := by rw [hs3.size, HTK.out]; exact hk8
        have HR4 := Lib.hid hr4
        have HO3 := Lib.hid ho3
        have HV2 := Lib.hid (show hiV s3.data.toList = v by rw [hs3.out]; exact HV.out)
        clear hs3 hs4 hr4 h3 ho3
        go_wp2_with fail
        refine (FromHigh_ok s3 z3 _).mono ?_
        rintro e w3 ⟨rfl, rfl⟩
        rw [HV2.out]
        go_wp2_with fail
        go_quiet ((go_at_call 56; exact quiet_left (NQ.out _)))
        go_wp2_with fail
        refine (fail_walk b s4 false (w2.drewN nq) HR4.out).mono ?_
        rintro e w5 ⟨rfl, h5, ho5⟩
        have HO5 : Only b w2 w5 := only_drewN ho5
        go_wp2_with fail
        go_ret
        exact ⟨by rw [HN.out]; rfl, by rw [HN.out]; exact h5, (HO1.out.trans HO3.out).trans HO5⟩

theorem NumIn_walk (b : Nat) (r : Rd) (most : BitVec 64) (w : World) (h : InAt w b r) (hl : r.l.length ≤ 140737488351000) :
    Calls Try.prog 27 #[.pointer (some ⟨b, 0, none⟩), .int .u64 (bvi most)] w fun e w' =>
      e = .returned (.int .u64 (bvi (numR r most).1)) ∧ InAt w' b (numR r most).2 ∧ Only b w w' := by
  obtain ⟨l, x⟩ := r
  cases x
  · cases l with
    | nil => exact Num_at1 b _ most w h (by simp) rfl
    | cons y t => exact Num_head b y t most w h (by simp at hl; omega)
  · refine Num_at1 b _ most w h (by simp at hl ⊢; omega) ?_
    simp [takeR]
end Go.Proofs.Ytfdncifnokkclaa
