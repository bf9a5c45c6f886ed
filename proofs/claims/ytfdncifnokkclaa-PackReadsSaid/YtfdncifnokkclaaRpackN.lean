/-
  Layer 12, the reference's package posthornref12: a number taken.
-/
import Derived.Test.YtfdncifnokkclaaRpackO
import Derived.Test.YtfdncifnokkclaaRegTab
namespace Go.Proofs.Ytfdncifnokkclaa
open Go.RowKit

theorem numL_is (n : BitVec 64) (h : UInt8) (l : List UInt8) (hl : l.length = h.toNat) (h8 : h.toNat ≤ 8) (hn : hiV l = n) : numL n = h :: l ↔ needN n.toNat = h.toNat := by
  unfold numL
  constructor
  · intro e
    injection e with e1 _
    have := needN_le n.toNat
    have e2 := congrArg UInt8.toNat e1
    simp at e2
    omega
  · intro e
    rw [e, ← hl, ← hn, high_hiV l (by omega), hl]
    simp

set_option maxRecDepth 100000 in
set_option maxHeartbeats 1000000 in
theorem RNum_bad (b : Nat) (l : List UInt8) (most : BitVec 64) (w : World) (h : RInAt w b ⟨l, true⟩) :
    Calls Try.prog 29 #[.pointer (some ⟨b, 0, none⟩), .int .u64 (bvi most)] w fun e w' => e = .returned (.int .u64 (bvi (0#64))) ∧ RInAt w' b Rd.broken ∧ Only b w w' := by
  obtain ⟨s, hs, hr, c0, c1⟩ := h.cells
  have HR := Lib.hid hr
  have hz := hs.size
  clear h hs hr
  have c1' : w.cell? ⟨b, 1, none⟩ = some (.bool true) := c1
  clear c1
  go_enter Try.func29, Try.ntmps29
  go_wp2_with fail
  go_quiet (fail)
  go_wp2_with fail
  refine (Rfail_walk b s true (w.drewN nq) HR.out).mono ?_
  rintro e w5 ⟨rfl, h5, ho5⟩
  have HO5 : Only b w w5 := only_drewN ho5
  go_wp2_with fail
  go_ret
  exact ⟨rfl, h5, HO5⟩

set_option maxRecDepth 100000 in
set_option maxHeartbeats 1000000 in
theorem RNum_nil (b : Nat) (most : BitVec 64) (w : World) (h : RInAt w b ⟨[], false⟩) :
    Calls Try.prog 29 #[.pointer (some ⟨b, 0, none⟩), .int .u64 (bvi most)] w fun e w' => e = .returned (.int .u64 (bvi (0#64))) ∧ RInAt w' b Rd.broken ∧ Only b w w' := by
  obtain ⟨s, hs, hr, c0, c1⟩ := h.cells
  have HR := Lib.hid hr
  have hz : s.size = 0 := hs.size
  have hzi : ((s.size : Int) == 0) = true := by rw [hz]; rfl
  have hzd : (s.size : Int) = 0 := by rw [hz]; rfl
  clear h hs hr
  have c1' : w.cell? ⟨b, 1, none⟩ = some (.bool false) := c1
  clear c1
  go_enter Try.func29, Try.ntmps29
  go_wp2_with fail
  go_quiet (fail)
  go_wp2_with fail
  refine (Rfail_walk b s false (w.drewN nq) HR.out).mono ?_
  rintro e w5 ⟨rfl, h5, ho5⟩
  have HO5 : Only b w w5 := only_drewN ho5
  go_wp2_with fail
  go_ret
  exact ⟨rfl, h5, HO5⟩

set_option maxRecDepth 100000 in
set_option maxHeartbeats 1000000 in
/-- The first byte is too large, or there are too few bytes. -/
theorem RNum_few (b : Nat) (h : UInt8) (t : List UInt8) (most : BitVec 64) (w : World) (hI : RInAt w b ⟨h :: t, false⟩) (hl : t.length ≤ 140737488351000) (hf : 8 < h.toNat ∨ t.length < h.toNat) :
    Calls Try.prog 29 #[.pointer (some ⟨b, 0, none⟩), .int .u64 (bvi most)] w fun e w' => e = .returned (.int .u64 (bvi (0#64))) ∧ RInAt w' b Rd.broken ∧ Only b w w' := by
  obtain ⟨s, hs, hr, c0, c1⟩ := hI.cells
  have HR := Lib.hid hr
  have hz : s.size = t.length + 1 := hs.size
  have hz0 : 0 < s.size := by omega
  have hzi : ((s.size : Int) == 0) = false := by rw [beq_eq_false_iff_ne]; omega
  have hzd : (s.size : Int) ≠ 0 := by omega
  have hzm : s.size ≤ 140737488351232 := by omega
  have c1' : w.cell? ⟨b, 1, none⟩ = some (.bool false) := c1
  have hg : bvi (s[0]'hz0).toBitVec = (h.toNat : Int) := by rw [hs.get 0 hz0]; rfl
  clear hI hs hr c1
  by_cases h8 : 8 < h.toNat
  · have g0 : (8 : Int) < bvi (s[0]'hz0).toBitVec := by rw [hg]; omega
    have gd : decide ((8 : Int) < bvi (s[0]'hz0).toBitVec) = true := decide_eq_true g0
    clear hf hg h8 hz hzd
    go_enter Try.func29, Try.ntmps29
    go_wp2_with fail
    go_quiet (fail)
    go_wp2_with fail
    refine (Rfail_walk b s false (w.drewN nq) HR.out).mono ?_
    rintro e w5 ⟨rfl, h5, ho5⟩
    have HO5 : Only b w w5 := only_drewN ho5
    go_wp2_with fail
    go_ret
    exact ⟨rfl, h5, HO5⟩
  · have g0 : bvi (s[0]'hz0).toBitVec ≤ (8 : Int) := by rw [hg]; omega
    have g1 : ¬ (8 : Int) < bvi (s[0]'hz0).toBitVec := by omega
    have g2 : (s.size : Int) < 1 + bvi (s[0]'hz0).toBitVec := by rw [hg]; omega
    have gn := bvi_nonneg (s[0]'hz0).toBitVec
    have gd : decide ((8 : Int) < bvi (s[0]'hz0).toBitVec) = false := decide_eq_false g1
    have ge : decide ((s.size : Int) < 1 + bvi (s[0]'hz0).toBitVec) = true := decide_eq_true g2
    clear hf hg h8 hz hzd
    go_enter Try.func29, Try.ntmps29
    go_wp2_with fail
    go_quiet (fail)
    go_wp2_with fail
    refine (Rfail_walk b s false (w.drewN nq) HR.out).mono ?_
    rintro e w5 ⟨rfl, h5, ho5⟩
    have HO5 : Only b w w5 := only_drewN ho5
    go_wp2_with fail
    go_ret
    exact ⟨rfl, h5, HO5⟩

set_option maxRecDepth 100000 in
set_option maxHeartbeats 8000000 in
theorem RNum_head (b : Nat) (h : UInt8) (t : List UInt8) (most : BitVec 64) (w : World) (hI : RInAt w b ⟨h :: t, false⟩) (hl : t.length ≤ 140737488351000) (h8 : h.toNat ≤ 8) (hge : h.toNat ≤ t.length) :
    Calls Try.prog 29 #[.pointer (some ⟨b, 0, none⟩), .int .u64 (bvi most)] w fun e w' =>
      e = .returned (.int .u64 (bvi (numR ⟨h :: t, false⟩ most).1)) ∧ RInAt w' b (numR ⟨h :: t, false⟩ most).2 ∧ Only b w w' := by
  obtain ⟨s, hs, hr, c0, c1⟩ := hI.cells
  have HR := Lib.hid hr
  have hz : s.size = t.length + 1 := hs.size
  have hz0 : 0 < s.size := by omega
  have hzi : ((s.size : Int) == 0) = false := by rw [beq_eq_false_iff_ne]; omega
  have hzd : (s.size : Int) ≠ 0 := by omega
  have hzm : s.size ≤ 140737488351232 := by omega
  have c1' : w.cell? ⟨b, 1, none⟩ = some (.bool false) := c1
  have hg : bvi (s[0]'hz0).toBitVec = (h.toNat : Int) := by rw [hs.get 0 hz0]; rfl
  have HL := Lib.hid (numL_is (hiV (t.take h.toNat)) h (t.take h.toNat) (by rw [List.length_take]; omega) h8 rfl)
  have hN0 : numR ⟨h :: t, false⟩ most = if needN (hiV (t.take h.toNat)).toNat ≠ h.toNat ∨ most < hiV (t.take h.toNat) then (0#64, Rd.broken) else (hiV (t.take h.toNat), ⟨t.drop h.toNat, false⟩) := by
    rw [numR_cons, if_neg (by omega)]
  have h1 := hs.extract 1 (1 + h.toNat)
  have h2 := hs.extract 0 (1 + h.toNat)
  have h3 := hs.extract (1 + h.toNat) s.size
  generalize hk : h.toNat = k at *
  have g1 : decide ((8 : Int) < (k : Int)) = false := decide_eq_false (by omega)
  have g2 : decide ((s.size : Int) < 1 + (k : Int)) = false := decide_eq_false (by omega)
  have g3 : 1 + k ≤ s.size := by omega
  have HZ := Lib.hid hz
  have H1 := Lib.hid h1
  have H2 := Lib.hid h2
  have H3 := Lib.hid h3
  have HN0 := Lib.hid hN0
  have HS := Lib.hid hs
  have HK := Lib.hid hk
  clear hI hs hr c1 h1 h2 h3 hN0 hk hz hzd
  go_enter Try.func29, Try.ntmps29
  go_wp2_with fail
  go_quiet (fail)
  go_wp2_with fail
  refine (RFromHigh_ok (s.extract 1 (1 + k)) (by rw [ByteArray.size_extract]; omega) _).mono ?_
  rintro e w3 ⟨rfl, rfl⟩
  have hv : hiV (s.extract 1 (1 + k)).data.toList = hiV (t.take k) := by
    rw [H1.out.out, Nat.add_sub_cancel_left, List.drop_succ_cons, List.drop_zero]
  rw [hv]
  clear hv
  generalize hiV (t.take k) = v at HL HN0 ⊢
  have HE := Lib.hid (show Is (s.extract 0 (1 + k)) (h :: t.take k) from by have := H2.out; rwa [show 1 + k - 0 = k + 1 by omega] at this)
  have HE3 := Lib.hid (show Is (s.extract (1 + k) s.size) (t.drop k) from by
    have := H3.out
    rw [HZ.out, List.take_of_length_le (by simp), Nat.add_comm 1 k, List.drop_succ_cons] at this
    rw [HZ.out, Nat.add_comm 1 k]
    exact this)
  clear H1 H2 H3
  have q1 : (0 : Int) ≤ 1 + (k : Int) := by omega
  have q2 : 1 + (k : Int) ≤ (s.size : Int) := by omega
  have q3 : (1 + (k : Int)).toNat = 1 + k := by omega
  obtain ⟨eqb, heqb⟩ : ∃ eqb : Bool, eqb = decide (numL v = h :: t.take k) := ⟨_, rfl⟩
  have HEQ := Lib.hid heqb
  clear heqb
  go_wp2_with fail
  refine region_table (by kernel_rfl) [62, 63, 64, 65, 66, 67, 68, 69, 70, 71, 72, 73, 74, 75]
    (fun i x => match i with
      | 0 => x = .int .u64 (bvi v)
      | 1 => ∃ r, x = .string r ∧ Is r (numL v)
      | 2 => x = .pointer (some ⟨b, 0, none⟩)
      | 3 => x = .pointer (some ⟨b, 0, none⟩)
      | 4 => x = .pointer (some ⟨b, 0, none⟩)
      | 5 => x = .string s
      | 6 => x = .int .i64 (1 + (k : Int))
      | 7 => x = .string (s.extract 0 (1 + k))
      | 8 => x = .bool (!eqb)
      | 9 => x = .bool (!eqb)
      | 10 => eqb = true → x = .int .u64 (bvi v)
      | 11 => eqb = true → x = .int .u64 (bvi most)
      | 12 => eqb = true → x = .bool (decide (bvi most < bvi v))
      | 13 => x = .bool (!eqb || decide (bvi most < bvi v))
      | _ => True) (fun _ _ w' => Below w.heap.size w w') (by kernel_rfl) (by kernel_rfl) rfl (by kernel_rfl) (below_drewN (Below.refl _ _) _).drew ?_ ?_
  · refine StepsOk.cons ?_ (StepsOk.cons ?_ (StepsOk.cons ?_ (StepsOk.cons ?_ (StepsOk.cons ?_ (StepsOk.cons ?_ (StepsOk.cons ?_ (StepsOk.cons ?_ (StepsOk.cons ?_ (StepsOk.cons ?_ (StepsOk.cons ?_ (StepsOk.cons ?_ (StepsOk.cons ?_ (StepsOk.cons ?_ StepsOk.nil)))))))))))))
    · intro L a w4 K hl hsz hs ht hr he hK
      refine step_plain rfl ?_
      have h6 : a.tmps.getD 6 undef = .int .u64 (bvi v) := (hs 6 (by decide)).trans rfl
      go_simp
      exact hK _ _ rfl hr
    · intro L a w4 K hl hsz hs ht hr he hK
      refine step_plain rfl ?_
      have h62 : a.tmps.getD 62 undef = .int .u64 (bvi v) := ht 0 (he 0 (by kernel_rfl)) 62 rfl
      go_simp
      refine (RNum_walk v _).mono ?_
      rintro e w5 ⟨r1, rfl, hr1, hb1⟩
      exact hK _ _ ⟨r1, rfl, hr1⟩ (hr.trans (hb1.mono hr.size))
    · intro L a w4 K hl hsz hs ht hr he hK
      refine step_plain rfl ?_
      have h0 : a.tmps.getD 0 undef = .pointer (some ⟨b, 0, none⟩) := (hs 0 (by decide)).trans rfl
      go_simp
      exact hK _ _ rfl hr
    · intro L a w4 K hl hsz hs ht hr he hK
      refine step_plain rfl ?_
      have h64 : a.tmps.getD 64 undef = .pointer (some ⟨b, 0, none⟩) := ht 2 (he 2 (by kernel_rfl)) 64 rfl
      go_simp
      exact hK _ _ rfl hr
    · intro L a w4 K hl hsz hs ht hr he hK
      refine step_plain rfl ?_
      have h65 : a.tmps.getD 65 undef = .pointer (some ⟨b, 0, none⟩) := ht 3 (he 3 (by kernel_rfl)) 65 rfl
      go_simp
      exact hK _ _ rfl hr
    · intro L a w4 K hl hsz hs ht hr he hK
      refine step_plain rfl ?_
      have h66 : a.tmps.getD 66 undef = .pointer (some ⟨b, 0, none⟩) := ht 4 (he 4 (by kernel_rfl)) 66 rfl
      have c := (HR.out.below hr HR.out.lt).cell (i := 0) rfl
      go_simp
      exact hK _ _ rfl hr
    · intro L a w4 K hl hsz hs ht hr he hK
      refine step_plain rfl ?_
      have h5 : a.tmps.getD 5 undef = .int .i64 (1 + (k : Int)) := (hs 5 (by decide)).trans rfl
      go_simp
      exact hK _ _ rfl hr
    · intro L a w4 K hl hsz hs ht hr he hK
      refine step_plain rfl ?_
      have h67 : a.tmps.getD 67 undef = .string s := ht 5 (he 5 (by kernel_rfl)) 67 rfl
      have h68 : a.tmps.getD 68 undef = .int .i64 (1 + (k : Int)) := ht 6 (he 6 (by kernel_rfl)) 68 rfl
      go_simp
      exact hK _ _ rfl hr
    · intro L a w4 K hl hsz hs ht hr he hK
      refine step_plain rfl ?_
      obtain ⟨r1, h63, hr1⟩ : ∃ r, a.tmps.getD 63 undef = .string r ∧ Is r (numL v) := ht 1 (he 1 (by kernel_rfl)) 63 rfl
      have h69 : a.tmps.getD 69 undef = .string (s.extract 0 (1 + k)) := ht 7 (he 7 (by kernel_rfl)) 69 rfl
      have hq : seq r1 (s.extract 0 (1 + k)) = eqb := by rw [HEQ.out]; exact seq_eq hr1 HE.out
      clear hr1
      go_simp
      exact hK _ _ rfl hr
    · intro L a w4 K hl hsz hs ht hr he hK
      refine step_plain rfl ?_
      have h70 : a.tmps.getD 70 undef = .bool (!eqb) := ht 8 (he 8 (by kernel_rfl)) 70 rfl
      go_simp
      exact hK _ _ rfl hr
    · intro L a w4 K hl hsz hs ht hr he hK
      have h71 : a.tmps.getD 71 undef = .bool (!eqb) := ht 9 (he 9 (by kernel_rfl)) 71 rfl
      refine step_guard 9 false (!eqb) 71 rfl rfl (by rw [hsz]; exact of_decide_eq_true (by kernel_rfl)) h71 ?_
      cases eqb
      · rw [if_neg (show ¬ (!false) = false by decide)]
        exact hK _ _ (fun h => absurd h (by decide)) hr
      · rw [if_pos (show (!true) = false from rfl)]
        have h6 : a.tmps.getD 6 undef = .int .u64 (bvi v) := (hs 6 (by decide)).trans rfl
        go_simp
        exact hK _ _ (fun _ => rfl) hr
    · intro L a w4 K hl hsz hs ht hr he hK
      have h71 : a.tmps.getD 71 undef = .bool (!eqb) := ht 9 (he 9 (by kernel_rfl)) 71 rfl
      refine step_guard 9 false (!eqb) 71 rfl rfl (by rw [hsz]; exact of_decide_eq_true (by kernel_rfl)) h71 ?_
      cases eqb
      · rw [if_neg (show ¬ (!false) = false by decide)]
        exact hK _ _ (fun h => absurd h (by decide)) hr
      · rw [if_pos (show (!true) = false from rfl)]
        have h1 : a.tmps.getD 1 undef = .int .u64 (bvi most) := (hs 1 (by decide)).trans rfl
        go_simp
        exact hK _ _ (fun _ => rfl) hr
    · intro L a w4 K hl hsz hs ht hr he hK
      have h71 : a.tmps.getD 71 undef = .bool (!eqb) := ht 9 (he 9 (by kernel_rfl)) 71 rfl
      refine step_guard 9 false (!eqb) 71 rfl rfl (by rw [hsz]; exact of_decide_eq_true (by kernel_rfl)) h71 ?_
      cases eqb
      · rw [if_neg (show ¬ (!false) = false by decide)]
        exact hK _ _ (fun h => absurd h (by decide)) hr
      · rw [if_pos (show (!true) = false from rfl)]
        have h72 : a.tmps.getD 72 undef = .int .u64 (bvi v) := ht 10 (he 10 (by kernel_rfl)) 72 rfl rfl
        have h73 : a.tmps.getD 73 undef = .int .u64 (bvi most) := ht 11 (he 11 (by kernel_rfl)) 73 rfl rfl
        go_simp
        exact hK _ _ (fun _ => rfl) hr
    · intro L a w4 K hl hsz hs ht hr he hK
      refine step_plain rfl ?_
      have h71 : a.tmps.getD 71 undef = .bool (!eqb) := ht 9 (he 9 (by kernel_rfl)) 71 rfl
      have h74 : eqb = true → a.tmps.getD 74 undef = .bool (decide (bvi most < bvi v)) := ht 12 (he 12 (by kernel_rfl)) 74 rfl
      cases eqb
      · go_simp
        exact hK _ _ rfl hr
      · have h74' := h74 rfl
        clear h74
        go_simp
        exact hK _ _ rfl hr
  · intro f L w4 hf _ hr
    have h75 : f 75 = .bool (!eqb || decide (bvi most < bvi v)) := hf 13 (by decide) 75 rfl
    simp only [List.foldl, Act.put, List.setIfInBounds_toArray, List.set_cons_zero, List.set_cons_succ]
    rw [h75]
    clear hf h75
    have hr4 := HR.out.below hr HR.out.lt
    have HR4 := Lib.hid hr4
    have c04 : w4.cell? ⟨b, 0, none⟩ = some (.string s) := hr4.cell (i := 0) rfl
    have f04 : w4.frozen? ⟨b, 0, none⟩ = false := hr4.free (i := 0) (by simp)
    have HB4 := Lib.hid hr
    clear hr hr4
    have hlt : bvi most < bvi v ↔ most < v := by rw [BitVec.lt_def]; unfold bvi; omega
    have hq : eqb = true ↔ needN v.toNat = k := by rw [HEQ.out, decide_eq_true_iff]; exact HL.out
    cases hB : (!eqb || decide (bvi most < bvi v))
    · rw [Bool.or_eq_false_iff, Bool.not_eq_false', decide_eq_false_iff_not] at hB
      have HN := Lib.hid (show numR ⟨h :: t, false⟩ most = (v, ⟨t.drop k, false⟩) by rw [HN0.out, if_neg (by rintro (e | e); exact e (hq.1 hB.1); exact hB.2 (hlt.2 e))])
      have HR5 := Lib.hid (HR4.out.store 0 (.string (s.extract (1 + k) s.size)))
      clear hB hlt hq
      go_wp2_with fail
      go_ret
      exact ⟨by rw [HN.out]; rfl, by rw [HN.out]; exact ⟨_, HE3.out, HR5.out⟩, Only.setCell (p := ⟨b, 0, none⟩) (Only.of_below HB4.out) rfl _⟩
    · rw [Bool.or_eq_true, Bool.not_eq_true', decide_eq_true_iff] at hB
      have HN := Lib.hid (show numR ⟨h :: t, false⟩ most = (0#64, Rd.broken) by
        rw [HN0.out, if_pos]
        rcases hB with e | e
        · exact Or.inl (fun g => by rw [hq.2 g] at e; cases e)
        · exact Or.inr (hlt.1 e))
      clear hB hlt hq
      go_wp2_with fail
      refine (Rfail_walk b s false _ HR4.out).mono ?_
      rintro e w5 ⟨rfl, h5, ho5⟩
      go_wp2_with fail
      go_ret
      exact ⟨by rw [HN.out]; rfl, by rw [HN.out]; exact h5, (Only.of_below HB4.out).trans ho5⟩

theorem RNumIn_walk (b : Nat) (r : Rd) (most : BitVec 64) (w : World) (h : RInAt w b r) (hl : r.l.length ≤ 140737488351000) :
    Calls Try.prog 29 #[.pointer (some ⟨b, 0, none⟩), .int .u64 (bvi most)] w fun e w' =>
      e = .returned (.int .u64 (bvi (numR r most).1)) ∧ RInAt w' b (numR r most).2 ∧ Only b w w' := by
  obtain ⟨l, x⟩ := r
  cases x
  · cases l with
    | nil => exact RNum_nil b most w h
    | cons y t =>
      by_cases hf : 8 < y.toNat ∨ t.length < y.toNat
      · rw [numR_cons, if_pos hf]
        exact RNum_few b y t most w h (by simp at hl; omega) hf
      · exact RNum_head b y t most w h (by simp at hl; omega) (by omega) (by omega)
  · exact RNum_bad b l most w h
end Go.Proofs.Ytfdncifnokkclaa
