/-
  Layer 12's laws, walked: PackApart, PackShort.
-/
import Derived.Test.YtfdncifnokkclaaL12A
namespace Go.Proofs.Ytfdncifnokkclaa
open Go.RowKit

theorem needN_byte {n m : Nat} (h : UInt8.ofNat (needN n) = UInt8.ofNat (needN m)) : needN n = needN m := by
  have h1 := needN_le n
  have h2 := needN_le m
  have := congrArg UInt8.toNat h
  simp at this
  omega
theorem numL_apart {n m : BitVec 64} {x y : List UInt8} (h : numL n ++ x = numL m ++ y) : n = m ∧ x = y := by
  unfold numL at h
  rw [List.cons_append, List.cons_append] at h
  injection h with h1 h2
  have hk := needN_byte h1
  obtain ⟨h3, h4⟩ := List.append_inj h2 (by rw [highL_length, highL_length, hk])
  refine ⟨?_, h4⟩
  rw [← num_back n, ← num_back m, h3]
theorem textL_apart {s t x y : List UInt8} (hs : s.length < 2 ^ 64) (ht : t.length < 2 ^ 64) (h : textL s ++ x = textL t ++ y) : s = t ∧ x = y := by
  unfold textL at h
  rw [List.append_assoc, List.append_assoc] at h
  obtain ⟨h1, h2⟩ := numL_apart h
  have h3 := congrArg BitVec.toNat h1
  rw [BitVec.toNat_ofNat, BitVec.toNat_ofNat, Nat.mod_eq_of_lt hs, Nat.mod_eq_of_lt ht] at h3
  exact List.append_inj h2 h3
theorem min_take {α : Type} (l m : List α) (h : l.take (min l.length m.length) = m.take (min l.length m.length)) : (∃ z, l ++ z = m ++ []) ∨ (∃ z, m ++ z = l ++ []) := by
  rcases Nat.le_total l.length m.length with hl | hl
  · left
    rw [Nat.min_eq_left hl, List.take_length] at h
    exact ⟨m.drop l.length, by rw [List.append_nil]; conv => lhs; lhs; rw [h]
                               exact List.take_append_drop _ _⟩
  · right
    rw [Nat.min_eq_right hl, List.take_length] at h
    exact ⟨l.drop m.length, by rw [List.append_nil]; conv => lhs; lhs; rw [← h]
                               exact List.take_append_drop _ _⟩
theorem num_take (n m : BitVec 64) : (numL n).take (min (numL n).length (numL m).length) = (numL m).take (min (numL n).length (numL m).length) ↔ n = m := by
  constructor
  · intro h
    rcases min_take _ _ h with ⟨z, hz⟩ | ⟨z, hz⟩
    · exact (numL_apart hz).1
    · exact (numL_apart hz).1.symm
  · rintro rfl; rfl
theorem text_take (s t : List UInt8) (hs : s.length < 2 ^ 64) (ht : t.length < 2 ^ 64) : (textL s).take (min (textL s).length (textL t).length) = (textL t).take (min (textL s).length (textL t).length) ↔ s = t := by
  constructor
  · intro h
    rcases min_take _ _ h with ⟨z, hz⟩ | ⟨z, hz⟩
    · exact (textL_apart hs ht hz).1
    · exact (textL_apart ht hs hz).1.symm
  · rintro rfl; rfl
theorem bvi_beq {k : Nat} (x y : BitVec k) : (bvi x == bvi y) = decide (x = y) := by
  rw [Bool.eq_iff_iff, beq_iff_eq, decide_eq_true_iff]; exact bvi_inj

/-- The two comparisons, told. -/
theorem apart_test {a b : ByteArray} {l m : List UInt8} (ha : Is a l) (hb : Is b m) {p : Prop} [Decidable p] (i : Nat) (hi : i = min l.length m.length) (h : l.take (min l.length m.length) = m.take (min l.length m.length) ↔ p) :
    seq (a.extract 0 i) (b.extract 0 i) = decide p := by
  have h1 := ha.extract 0 i
  have h2 := hb.extract 0 i
  rw [seq_eq h1 h2, List.drop_zero, List.drop_zero, Nat.sub_zero, hi, Bool.eq_iff_iff, decide_eq_true_iff, decide_eq_true_iff]
  exact h

set_option maxRecDepth 100000 in
set_option maxHeartbeats 2000000 in
theorem PackApart_w (n m : BitVec 64) (s t : ByteArray) (w : World) :
    Calls Try.prog 4 #[.int .u64 (bvi n), .int .u64 (bvi m), .string s, .string t] w fun e w' => e = .returned (.bool true) ∧ Below w.heap.size w w' := by
  by_cases hbig : 4096 < s.size ∨ 4096 < t.size
  · rcases hbig with hbig | hbig
    · have hd : decide ((4096 : Int) < (s.size : Int)) = true := decide_eq_true (by omega)
      go_enter Try.func4, Try.ntmps4
      go_wp2_with fail
      refine (awake12 _).mono ?_
      rintro e w1 ⟨rfl, hb1⟩
      go_wp2_with fail
      go_ret
      exact ⟨rfl, hb1⟩
    · have hd : decide ((4096 : Int) < (t.size : Int)) = true := decide_eq_true (by omega)
      by_cases hs : 4096 < s.size
      · have hd : decide ((4096 : Int) < (s.size : Int)) = true := decide_eq_true (by omega)
        go_enter Try.func4, Try.ntmps4
        go_wp2_with fail
        refine (awake12 _).mono ?_
        rintro e w1 ⟨rfl, hb1⟩
        go_wp2_with fail
        go_ret
        exact ⟨rfl, hb1⟩
      · have hd : decide ((4096 : Int) < (s.size : Int)) = false := decide_eq_false (by omega)
        go_enter Try.func4, Try.ntmps4
        go_wp2_with fail
        refine (awake12 _).mono ?_
        rintro e w1 ⟨rfl, hb1⟩
        go_wp2_with fail
        go_ret
        exact ⟨rfl, hb1⟩
  · have hs : s.size ≤ 4096 := by omega
    have ht : t.size ≤ 4096 := by omega
    have hd1 : decide ((4096 : Int) < (s.size : Int)) = false := decide_eq_false (by omega)
    have hd2 : decide ((4096 : Int) < (t.size : Int)) = false := decide_eq_false (by omega)
    clear hbig
    go_enter Try.func4, Try.ntmps4
    go_wp2_with fail
    refine (awake12 _).mono ?_
    rintro e w1 ⟨rfl, hb1⟩
    go_wp2_with fail
    refine (PNum_walk n _).mono ?_
    rintro e w2 ⟨r2, rfl, hr2, hb2⟩
    go_wp2_with fail
    refine (PNum_walk m _).mono ?_
    rintro e w3 ⟨r3, rfl, hr3, hb3⟩
    go_wp2_with fail
    refine (PText_walk s (by omega) _).mono ?_
    rintro e w4 ⟨r4, rfl, hr4, hl4, hb4⟩
    go_wp2_with fail
    refine (PText_walk t (by omega) _).mono ?_
    rintro e w5 ⟨r5, rfl, hr5, hl5, hb5⟩
    obtain ⟨i, hi⟩ : ∃ i, i = min (numL n).length (numL m).length := ⟨_, rfl⟩
    obtain ⟨k, hk⟩ : ∃ k, k = min (textL s.data.toList).length (textL t.data.toList).length := ⟨_, rfl⟩
    have hlen : ∀ l : List UInt8, 0 < (textL l).length := by intro l; unfold textL numL; simp
    have hz2 := hr2.size
    have hz3 := hr3.size
    have hz4 := hr4.size
    have hz5 := hr5.size
    have g1 := numL_length n
    have g2 := numL_length m
    have g3 := hlen s.data.toList
    have g4 := hlen t.data.toList
    have n1 := numL_short n
    have n2 := numL_short m
    have e1 : min (r2.size : Int) (r3.size : Int) = (i : Int) := by omega
    have e2 : min (r4.size : Int) (r5.size : Int) = (k : Int) := by omega
    have i1 : i ≤ r2.size := by omega
    have i2 : i ≤ r3.size := by omega
    have i0 : 0 < i := by omega
    have k1 : k ≤ r4.size := by omega
    have k2 : k ≤ r5.size := by omega
    have k0 : 0 < k := by omega
    have q1 : (seq (r2.extract 0 i) (r3.extract 0 i) == (bvi n == bvi m)) = true := by
      rw [apart_test hr2 hr3 i hi (num_take n m), bvi_beq]; exact beq_self_eq_true _
    have q2 : (seq (r4.extract 0 k) (r5.extract 0 k) == seq s t) = true := by
      have l1 := len_list s
      have l2 := len_list t
      rw [apart_test hr4 hr5 k hk (text_take _ _ (by omega) (by omega)), seq_eq (Is.self s) (Is.self t)]; exact beq_self_eq_true _
    clear hi hk hlen hz2 hz3 hz4 hz5 g1 g2 g3 g4 hr2 hr3 hr4 hr5
    go_wp2_with fail
    go_quiet (fail)
    go_wp2_with fail
    go_ret
    exact ⟨rfl, below_drewN (bthen (bthen (bthen (bthen hb1 hb2) hb3) hb4) hb5) _⟩

/-- A number's bytes, taken again. -/
theorem numR_back (n most : BitVec 64) (t : List UInt8) : numR ⟨numL n ++ t, false⟩ most = if most < n then (0#64, Rd.broken) else (n, ⟨t, false⟩) := by
  have h8 := needN_le n.toNat
  have hl := highL_length n (needN n.toNat)
  have ht : (UInt8.ofNat (needN n.toNat)).toNat = needN n.toNat := by simp; omega
  have h1 : (highL n (needN n.toNat) ++ t).take (needN n.toNat) = highL n (needN n.toNat) := by
    conv => lhs; lhs; rw [← hl]
    rw [hl]; exact List.take_left' hl
  have h2 : (highL n (needN n.toNat) ++ t).drop (needN n.toNat) = t := List.drop_left' hl
  unfold numL
  rw [List.cons_append, numR_cons, ht, if_neg (by simp; omega), h1, h2, num_back]
  by_cases h : most < n
  · rw [if_pos (Or.inr h), if_pos h]
  · rw [if_neg (by rintro (e | e); exact e rfl; exact h e), if_neg h]
theorem InAt.only {w w' : World} {b c : Nat} {r : Rd} (h : InAt w b r) (ho : Only c w w') (hne : b ≠ c) : InAt w' b r := by
  obtain ⟨s, hs, hr⟩ := h
  exact ⟨s, hs, (ho.block b hr.lt hne).trans hr⟩
theorem bvi_gt {k : Nat} {x y : BitVec k} (h : x < y) : bvi x < bvi y := by have := BitVec.lt_def.1 h; unfold bvi; omega

set_option maxRecDepth 100000 in
set_option maxHeartbeats 2000000 in
theorem PackShort_w (n : BitVec 64) (w : World) :
    Calls Try.prog 5 #[.int .u64 (bvi n)] w fun e w' => e = .returned (.bool true) ∧ Below w.heap.size w w' := by
  generalize hN : needN n.toNat = N
  have HN := Lib.hid hN
  clear hN
  go_enter Try.func5, Try.ntmps5
  go_wp2_with fail
  refine (awake12 _).mono ?_
  rintro e w1 ⟨rfl, hb1⟩
  go_wp2_with fail
  go_loop [3, 4] (fun i x => ∃ (m : BitVec 64) (k : Nat), k ≤ 8 ∧ x = .int .u64 (bvi m) ∧ i = .int .i64 k ∧ m.toNat < 256 ^ (8 - k) ∧ Hid (k + needF (8 - k) m.toNat = N)) (fun _ x => (intOf x).toNat)
  case atStart => exact ⟨n, 0, by omega, rfl, rfl, n.isLt, by unfold Hid; rw [← HN.out, Nat.zero_add]; rfl⟩
  case round =>
    obtain ⟨m, k, hk8, rfl, rfl, hlt, hk⟩ := hrel
    by_cases hm : m = 0#64
    · subst hm
      have hz : ¬ (0 < bvi (0#64)) := by decide
      have HK := Lib.hid (show needN n.toNat = k by
        have := hk.out
        simp [needF_zero] at this
        rw [HN.out, this])
      clear hlt hk HN
      have hlen : (numL n).length = 1 + k := by rw [numL_length, HK.out]
      go_wp2_with fail
      refine (PNum_walk n _).mono ?_
      rintro e w2 ⟨r2, rfl, hr2, hb2⟩
      have hz2 := hr2.size
      have e1 : ((r2.size : Int) != 1 + (k : Int)) = false := by rw [bne_eq_false_iff_eq]; omega
      have HR2 := Lib.hid hr2
      clear hr2 hlen hz2
      go_wp2_with fail
      refine (PNum_walk n _).mono ?_
      rintro e w3 ⟨r3, rfl, hr3, hb3⟩
      go_wp2_with fail
      refine (From_walk r3 _).mono ?_
      rintro e w4 ⟨rfl, rfl⟩
      have hI4 : InAt (w3.alloc (.cells #[.string r3, .bool false] 47)) w3.heap.size ⟨numL n ++ [], false⟩ := ⟨r3, by rw [List.append_nil]; exact hr3, RowAt.new w3 _ _ _⟩
      have hb4 : Below w3.heap.size w3 (w3.alloc (.cells #[.string r3, .bool false] 47)) := (Below.refl _ _).alloc (Nat.le_refl _) _
      generalize w3.alloc (.cells #[.string r3, .bool false] 47) = w4 at hI4 hb4 ⊢
      have HI4 := Lib.hid hI4
      have zW : w.heap.size ≤ w3.heap.size := (bthen (bthen hb1 hb2) hb3).size
      have HB4 := Lib.hid (bthen (bthen (bthen hb1 hb2) hb3) hb4)
      have hlong : (numL n ++ []).length ≤ 140737488351000 := by have := numL_short n; simp; omega
      have HX := Lib.hid (numR_back n n [])
      have hnn : ¬ n < n := BitVec.lt_irrefl n
      clear hI4 hb1 hb2 hb3 hr3
      by_cases hpos : 0 < bvi n
      · have hlt : n - 1#64 < n := by
          have h1 : n ≠ 0#64 := by rintro rfl; exact absurd hpos (by decide)
          have h2 : n.toNat ≠ 0 := fun e => h1 (BitVec.eq_of_toNat_eq e)
          rw [BitVec.lt_def, BitVec.toNat_sub_of_le (by rw [BitVec.le_def]; simp; omega)]
          simp; omega
        have HY := Lib.hid (show numR ⟨numL n ++ [], false⟩ (n - 1#64) = (0#64, Rd.broken) by rw [numR_back, if_pos hlt])
        clear hlt hz
        go_wp2_with fail
        refine (PNum_walk n _).mono ?_
        rintro e w5 ⟨r5, rfl, hr5, hb5⟩
        go_wp2_with fail
        refine (From_walk r5 _).mono ?_
        rintro e w6 ⟨rfl, rfl⟩
        have hI6 : InAt (w5.alloc (.cells #[.string r5, .bool false] 47)) w5.heap.size ⟨numL n ++ [], false⟩ := ⟨r5, by rw [List.append_nil]; exact hr5, RowAt.new w5 _ _ _⟩
        have hb6 : Below w5.heap.size w5 (w5.alloc (.cells #[.string r5, .bool false] 47)) := (Below.refl _ _).alloc (Nat.le_refl _) _
        generalize w5.alloc (.cells #[.string r5, .bool false] 47) = w6 at hI6 hb6 ⊢
        have HI6 := Lib.hid hI6
        have hI5 := HI4.out.below (bthen hb5 hb6)
        have z6 : w4.heap.size ≤ w5.heap.size := hb5.size
        have z3 := HI4.out.lt
        clear hI6 hr5
        go_wp2_with fail
        refine (num_lit w5.heap.size _ _ (n - 1#64) 0#64 _ 0 _ HI6.out hlong HY.out rfl rfl).mono ?_
        rintro e w7 ⟨rfl, h7, ho7⟩
        have hI7 := hI5.only ho7 (by omega)
        have HB7 := Lib.hid ((bthen (bthen HB4.out hb5) hb6).trans (ho7.below (by have := HB4.out.size; omega) (by have := (bthen (bthen HB4.out hb5) hb6).size; omega)))
        have H7 := Lib.hid h7
        have HI7 := Lib.hid hI7
        clear h7 hI7 hI5 ho7 hb5 hb6
        go_wp2_with fail
        refine (Done_walk w5.heap.size _ _ H7.out).mono ?_
        rintro e w8 ⟨rfl, rfl⟩
        rw [show doneR Rd.broken = 2 from rfl]
        go_wp2_with fail
        refine (NumIn_walk w3.heap.size _ n _ HI7.out hlong).mono ?_
        rw [HX.out, if_neg hnn]
        rintro e w9 ⟨rfl, h9, ho9⟩
        have H9 := Lib.hid h9
        have HB9 := Lib.hid (HB7.out.trans (ho9.below (by have := HB4.out.size; omega) (by have := HB7.out.size; omega)))
        clear h9 ho9
        go_wp2_with fail
        refine (Done_walk w3.heap.size _ _ H9.out).mono ?_
        rintro e w10 ⟨rfl, rfl⟩
        rw [show doneR ⟨[], false⟩ = 0 from rfl]
        go_wp2_with fail
        go_ret
        exact ⟨rfl, HB9.out⟩
      · go_wp2_with fail
        refine (NumIn_walk w3.heap.size _ n _ HI4.out hlong).mono ?_
        rw [HX.out, if_neg hnn]
        rintro e w9 ⟨rfl, h9, ho9⟩
        have H9 := Lib.hid h9
        have HB9 := Lib.hid (HB4.out.trans (ho9.below (by have := HB4.out.size; omega) (by have := HB4.out.size; omega)))
        clear h9 ho9
        go_wp2_with fail
        refine (Done_walk w3.heap.size _ _ H9.out).mono ?_
        rintro e w10 ⟨rfl, rfl⟩
        rw [show doneR ⟨[], false⟩ = 0 from rfl]
        go_wp2_with fail
        go_ret
        exact ⟨rfl, HB9.out⟩
    · have hpos : 0 < bvi m := by
        have h1 := bvi_nonneg m
        have h2 : bvi m ≠ 0 := fun e => hm (bvi_inj.1 (e.trans rfl))
        omega
      have hmn : m.toNat ≠ 0 := fun e => hm (BitVec.eq_of_toNat_eq e)
      have hk9 : k < 8 := by
        rcases Nat.lt_or_ge k 8 with h | h
        · exact h
        · rw [show 8 - k = 0 by omega] at hlt
          simp at hlt
          omega
      have HL := Lib.hid hlt
      clear hlt hm
      go_wp2_with fail
      go_round
      case rel =>
        have e : (m / 256#64).toNat = m.toNat / 256 := by rw [BitVec.toNat_udiv]; rfl
        refine ⟨m / 256#64, k + 1, by omega, rfl, by go_num, ?_, ?_⟩
        · rw [e]
          have := HL.out
          rw [show 8 - k = (8 - (k + 1)) + 1 by omega, Nat.pow_succ] at this
          omega
        · have h := hk.out
          rw [show 8 - k = (8 - (k + 1)) + 1 by omega, needF, if_neg hmn] at h
          unfold Hid
          rw [e]
          omega
      case measure =>
        have e : (m / 256#64).toNat = m.toNat / 256 := by rw [BitVec.toNat_udiv]; rfl
        simp only [intOf, bvi_toNat, e]
        omega
end Go.Proofs.Ytfdncifnokkclaa
