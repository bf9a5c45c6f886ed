/-
  Layer 12, the reference's package posthornref12: a text, and a list, taken. posthornref08.Same.
-/
import Derived.Test.YtfdncifnokkclaaRpackN
import Derived.Test.YtfdncifnokkclaaPackL
import Derived.Test.YtfdncifnokkclaaOwn
namespace Go.Proofs.Ytfdncifnokkclaa
open Go.RowKit

theorem RInAt.low {w w' : World} {b B : Nat} {r : Rd} (h : RInAt w b r) (hb : Below B w w') (hB : b < B) : RInAt w' b r := by
  obtain ⟨s, hs, hr⟩ := h
  exact ⟨s, hs, hr.below hb hB⟩
theorem mostOf_neg (most : Int) (h : most < 0) : mostOf most = 0#64 := by unfold mostOf; rw [show max most 0 = 0 by omega]; rfl
theorem mostOf_pos (most : Int) (h : 0 ≤ most) : mostOf most = BitVec.ofInt 64 most := by unfold mostOf; rw [show max most 0 = most by omega]
theorem mostOf_neg' (most : Int) (h : most < 0) : (0 : Int) = bvi (mostOf most) := by rw [mostOf_neg most h]; rfl
theorem takeR_ok (l : List UInt8) (n : Nat) (h : n ≤ l.length) : takeR ⟨l, false⟩ n = (l.take n, ⟨l.drop n, false⟩) := by
  unfold takeR
  rw [if_neg (by rintro (e | e); cases e; simp at e; omega)]
theorem takeR_no (r : Rd) (n : Nat) (h : r.bad = true ∨ r.l.length < n) : takeR r n = ([], Rd.broken) := if_pos h

set_option maxRecDepth 100000 in
set_option maxHeartbeats 4000000 in
theorem RTextIn_walk (b : Nat) (r : Rd) (most : Int) (hm : most ≤ 9223372036854775807) (w : World) (h : RInAt w b r) (hl : r.l.length ≤ 140737488351000) :
    Calls Try.prog 31 #[.pointer (some ⟨b, 0, none⟩), .int .i64 most] w fun e w' =>
      ∃ s, e = .returned (.string s) ∧ Is s (textR r most).1 ∧ RInAt w' b (textR r most).2 ∧ Only b w w' := by
  have h1 := numR_most r (mostOf most)
  have h2 := mostOf_toNat most hm
  have h3 := numR_len r (mostOf most)
  have HT := Lib.hid (show textR r most = takeR (numR r (mostOf most)).2 (numR r (mostOf most)).1.toNat from rfl)
  have HI := Lib.hid h
  clear h
  rcases Int.lt_or_le most 0 with hneg | hpos
  · have HM := Lib.hid (mostOf_neg most hneg)
    go_enter Try.func31, Try.ntmps31
    go_wp2_with fail
    rw [← HM.out]
    refine (RNumIn_walk b r _ _ HI.out hl).mono ?_
    rintro e w1 ⟨rfl, hn1, ho1⟩
    have HO1 := Lib.hid ho1
    clear ho1
    obtain ⟨n, hn, hn2⟩ : ∃ n : Nat, (numR r (mostOf most)).1.toNat = n ∧ n ≤ 9223372036854775807 := ⟨_, rfl, by omega⟩
    have hb : bvi (numR r (mostOf most)).1 = (n : Int) := by unfold bvi; rw [hn]
    rw [hb]
    rw [hn] at HT
    clear hn hb h1 h2
    generalize (numR r (mostOf most)).2 = r1 at *
    obtain ⟨s, hs, hr, c0, c1⟩ := hn1.cells
    obtain ⟨l, x⟩ := r1
    have hz : s.size = l.length := hs.size
    have hzm : s.size ≤ 140737488351000 := by simp at h3; omega
    have hzb : bvi (BitVec.ofNat 64 s.size) = (s.size : Int) := by unfold bvi; rw [BitVec.toNat_ofNat, Nat.mod_eq_of_lt (by omega)]
    have HZ := Lib.hid hz
    have HS := Lib.hid hs
    have HR := Lib.hid hr
    clear hs hr hn1 h3 hz
    cases x
    · have c1' : w1.cell? ⟨b, 1, none⟩ = some (.bool false) := c1
      clear c1
      by_cases hlt : s.size < n
      · have hd : decide (s.size < n) = true := decide_eq_true hlt
        have HN := Lib.hid (show textR r most = ([], Rd.broken) by rw [HT.out]; exact takeR_no _ _ (Or.inr (by show l.length < n; rw [← HZ.out]; exact hlt)))
        clear hlt
        go_wp2_with fail
        refine (Rfail_walk b s false _ HR.out).mono ?_
        rintro e w5 ⟨rfl, h5, ho5⟩
        go_wp2_with fail
        go_ret
        exact ⟨⟨#[]⟩, rfl, by rw [HN.out]; exact Is.of [], by rw [HN.out]; exact h5, HO1.out.trans ho5⟩
      · have hd : decide (s.size < n) = false := decide_eq_false hlt
        have hle : n ≤ s.size := by omega
        have HN := Lib.hid (show textR r most = (l.take n, ⟨l.drop n, false⟩) by rw [HT.out]; exact takeR_ok _ _ (by rw [← HZ.out]; exact hle))
        have f0 := HR.out.free (i := 0) (by simp)
        have HR5 := Lib.hid (HR.out.store 0 (.string (s.extract n s.size)))
        have HX := Lib.hid (show Is (s.extract 0 n) (l.take n) from by have := HS.out.extract 0 n; rwa [List.drop_zero, Nat.sub_zero] at this)
        have HY := Lib.hid (show Is (s.extract n s.size) (l.drop n) from by
          have := HS.out.extract n s.size
          rwa [List.take_of_length_le (by rw [List.length_drop, ← HZ.out]; exact Nat.le_refl _)] at this)
        clear hlt
        go_wp2_with fail
        go_ret
        exact ⟨_, rfl, by rw [HN.out]; exact HX.out, by rw [HN.out]; exact ⟨_, HY.out, HR5.out⟩, Only.setCell (p := ⟨b, 0, none⟩) HO1.out rfl _⟩
    · have c1' : w1.cell? ⟨b, 1, none⟩ = some (.bool true) := c1
      clear c1
      have HN := Lib.hid (show textR r most = ([], Rd.broken) by rw [HT.out]; exact takeR_no _ _ (Or.inl rfl))
      go_wp2_with fail
      refine (Rfail_walk b s true _ HR.out).mono ?_
      rintro e w5 ⟨rfl, h5, ho5⟩
      go_wp2_with fail
      go_ret
      exact ⟨⟨#[]⟩, rfl, by rw [HN.out]; exact Is.of [], by rw [HN.out]; exact h5, HO1.out.trans ho5⟩
  · have HM := Lib.hid (mostOf_pos most hpos)
    go_enter Try.func31, Try.ntmps31
    go_wp2_with fail
    rw [← HM.out]
    refine (RNumIn_walk b r _ _ HI.out hl).mono ?_
    rintro e w1 ⟨rfl, hn1, ho1⟩
    have HO1 := Lib.hid ho1
    clear ho1
    obtain ⟨n, hn, hn2⟩ : ∃ n : Nat, (numR r (mostOf most)).1.toNat = n ∧ n ≤ 9223372036854775807 := ⟨_, rfl, by omega⟩
    have hb : bvi (numR r (mostOf most)).1 = (n : Int) := by unfold bvi; rw [hn]
    rw [hb]
    rw [hn] at HT
    clear hn hb h1 h2
    generalize (numR r (mostOf most)).2 = r1 at *
    obtain ⟨s, hs, hr, c0, c1⟩ := hn1.cells
    obtain ⟨l, x⟩ := r1
    have hz : s.size = l.length := hs.size
    have hzm : s.size ≤ 140737488351000 := by simp at h3; omega
    have hzb : bvi (BitVec.ofNat 64 s.size) = (s.size : Int) := by unfold bvi; rw [BitVec.toNat_ofNat, Nat.mod_eq_of_lt (by omega)]
    have HZ := Lib.hid hz
    have HS := Lib.hid hs
    have HR := Lib.hid hr
    clear hs hr hn1 h3 hz
    cases x
    · have c1' : w1.cell? ⟨b, 1, none⟩ = some (.bool false) := c1
      clear c1
      by_cases hlt : s.size < n
      · have hd : decide (s.size < n) = true := decide_eq_true hlt
        have HN := Lib.hid (show textR r most = ([], Rd.broken) by rw [HT.out]; exact takeR_no _ _ (Or.inr (by show l.length < n; rw [← HZ.out]; exact hlt)))
        clear hlt
        go_wp2_with fail
        refine (Rfail_walk b s false _ HR.out).mono ?_
        rintro e w5 ⟨rfl, h5, ho5⟩
        go_wp2_with fail
        go_ret
        exact ⟨⟨#[]⟩, rfl, by rw [HN.out]; exact Is.of [], by rw [HN.out]; exact h5, HO1.out.trans ho5⟩
      · have hd : decide (s.size < n) = false := decide_eq_false hlt
        have hle : n ≤ s.size := by omega
        have HN := Lib.hid (show textR r most = (l.take n, ⟨l.drop n, false⟩) by rw [HT.out]; exact takeR_ok _ _ (by rw [← HZ.out]; exact hle))
        have f0 := HR.out.free (i := 0) (by simp)
        have HR5 := Lib.hid (HR.out.store 0 (.string (s.extract n s.size)))
        have HX := Lib.hid (show Is (s.extract 0 n) (l.take n) from by have := HS.out.extract 0 n; rwa [List.drop_zero, Nat.sub_zero] at this)
        have HY := Lib.hid (show Is (s.extract n s.size) (l.drop n) from by
          have := HS.out.extract n s.size
          rwa [List.take_of_length_le (by rw [List.length_drop, ← HZ.out]; exact Nat.le_refl _)] at this)
        clear hlt
        go_wp2_with fail
        go_ret
        exact ⟨_, rfl, by rw [HN.out]; exact HX.out, by rw [HN.out]; exact ⟨_, HY.out, HR5.out⟩, Only.setCell (p := ⟨b, 0, none⟩) HO1.out rfl _⟩
    · have c1' : w1.cell? ⟨b, 1, none⟩ = some (.bool true) := c1
      clear c1
      have HN := Lib.hid (show textR r most = ([], Rd.broken) by rw [HT.out]; exact takeR_no _ _ (Or.inl rfl))
      go_wp2_with fail
      refine (Rfail_walk b s true _ HR.out).mono ?_
      rintro e w5 ⟨rfl, h5, ho5⟩
      go_wp2_with fail
      go_ret
      exact ⟨⟨#[]⟩, rfl, by rw [HN.out]; exact Is.of [], by rw [HN.out]; exact h5, HO1.out.trans ho5⟩

set_option maxRecDepth 100000 in
set_option maxHeartbeats 2000000 in
theorem RListIn_walk (b : Nat) (r : Rd) (many most : Int) (hm : most ≤ 9223372036854775807) (w : World) (h : RInAt w b r) (hl : r.l.length ≤ 1000000) :
    Calls Try.prog 34 #[.pointer (some ⟨b, 0, none⟩), .int .i64 many, .int .i64 most] w fun e w' =>
      ∃ ao cap ss, e = .returned (.slice ao (ss : List ByteArray).length cap) ∧ bytesOf ss = ((listR r many most).1).getD [] ∧ StrsAt w' ao ss ∧ (∀ k off, ao = some ⟨k, off, none⟩ → w.heap.size ≤ k) ∧ RInAt w' b (listR r many most).2 ∧ Only b w w' := by
  have h1 := numR_len r (mostOf many)
  have hblt := h.lt
  have HI := Lib.hid h
  have HL := Lib.hid (show listR r many most = preR [] (textsR most (numR r (mostOf many)).1.toNat (numR r (mostOf many)).2) by rw [preR_nil]; rfl)
  clear h
  rcases Int.lt_or_le many 0 with hneg | hpos
  · have HM := Lib.hid (mostOf_neg many hneg)
    go_enter Try.func34, Try.ntmps34
    go_wp2_with fail
    rw [← HM.out]
    refine (RNumIn_walk b r _ _ HI.out (by omega)).mono ?_
    rintro e w1 ⟨rfl, hn1, ho1⟩
    have HN1 := Lib.hid hn1
    have HO1 := Lib.hid ho1
    clear hn1 ho1
    generalize (numR r (mostOf many)).1 = n at HL HN1 ⊢
    generalize (numR r (mostOf many)).2 = r1 at HL HN1 h1 ⊢
    go_wp2_with fail
    go_loopw [8, 9] (fun v i wr => ∃ (r' : Rd) (ss : List ByteArray), ss.length ≤ n.toNat ∧ i = .int .u64 (bvi (BitVec.ofNat 64 ss.length)) ∧ RInAt wr b r' ∧ wr.ownsRow w.heap.size 9 1 v ss.length (ss.map Value.string) ∧ Only b w wr ∧
        ss.length + r'.l.length ≤ 1000000 ∧ Hid (listR r many most = preR (bytesOf ss) (textsR most (n.toNat - ss.length) r'))) (fun _ i _ => n.toNat - (intOf i).toNat)
    case atStart => exact ⟨r1, [], Nat.zero_le _, rfl, HN1.out.low ((Below.refl w1.heap.size w1).alloc (Nat.le_refl _) _) HN1.out.lt, owns_zero w1 _ HO1.out.size, Only.of_low HO1.out ((Below.refl w.heap.size w1).alloc HO1.out.size _) (Nat.le_refl _), by simp; omega, HL.out⟩
    case round =>
      obtain ⟨r', ss, hk, rfl, hin, hown, ho, hlen, hlist⟩ := hrel
      have HIN := Lib.hid hin
      have HOWN := Lib.hid hown
      have HO := Lib.hid ho
      clear hin hown ho
      generalize hkk : ss.length = k at hk hlen ⊢
      have HK := Lib.hid hkk
      clear hkk
      have hkb : bvi (BitVec.ofNat 64 k) = (k : Int) := by
        unfold bvi
        rw [BitVec.toNat_ofNat, Nat.mod_eq_of_lt (by omega)]
      have hnb : bvi n = (n.toNat : Int) := rfl
      rcases Nat.lt_or_ge k n.toNat with hlt | hge
      · have hcmp : bvi (BitVec.ofNat 64 k) < bvi n := by rw [hkb, hnb]; omega
        have HKB := Lib.hid hkb
        have HLT := Lib.hid hlt
        clear hkb hnb hlt hk
        go_wp2_with fail
        refine (RTextIn_walk b r' most hm _ HIN.out (by omega)).mono ?_
        rintro e w2 ⟨s, rfl, hs, h2, ho2⟩
        obtain ⟨s2, hs2, hr2, c0, c1⟩ := h2.cells
        have HS := Lib.hid hs
        have H2 := Lib.hid h2
        have HO2 := Lib.hid ho2
        clear hs h2 ho2 hs2 hr2
        cases hbad : (textR r' most).2.bad
        · rw [hbad] at c1
          have huse := textR_uses r' most hbad
          have HBAD := Lib.hid hbad
          clear hbad
          have hown2 := Only.ownsRow HOWN.out HO2.out hblt
          rw [HK.out] at hown2
          have hsz2 : w.heap.size ≤ w2.heap.size := Nat.le_trans HO.out.size HO2.out.size
          go_wp2_with (at_builtin; refine append_one rfl _ _ 23 rfl w2 w.heap.size 9 (.string ⟨#[]⟩) 16 Try.underlying23 infoStr rfl hown2 rfl _ rfl rfl ?c1 ?c2 ?c3 ?_)
          case c1 => omega
          case c2 => omega
          case c3 => omega
          intro v' w3 hown3 hb3 _ _
          have HOWN3 := Lib.hid hown3
          have HB3 := Lib.hid hb3
          clear hown2 hown3 hb3
          go_wp2_with fail
          go_roundw
          case rel =>
            have hls := hlist.out
            rw [HK.out, show n.toNat - k = (n.toNat - (k + 1)) + 1 by have := HLT.out; omega, textsR_step _ _ _ _ HBAD.out] at hls
            refine ⟨(textR r' most).2, ss ++ [s], by rw [List.length_append, HK.out]; have := HLT.out; simp; omega, ?_, H2.out.low HB3.out hblt, ?_, (HO.out.trans HO2.out).of_low HB3.out (Nat.le_refl _), by rw [List.length_append, HK.out]; simp; omega, ?_⟩
            · rw [List.length_append, HK.out]
              exact congrArg (fun x => Value.int .u64 (bvi x)) (by rw [show ([s] : List ByteArray).length = 1 from rfl, BitVec.ofNat_add])
            · rw [List.length_append, HK.out, List.map_append]
              exact HOWN3.out
            · unfold Hid
              rw [hls, List.length_append, HK.out]
              simp [bytesOf, HS.out.out]
          case measure =>
            have h1 := HKB.out
            have h2 := HLT.out
            have h3 : bvi (BitVec.ofNat 64 k + 1#64) = (k : Int) + 1 := by
              have := n.isLt
              unfold bvi
              rw [show BitVec.ofNat 64 k + 1#64 = BitVec.ofNat 64 (k + 1) from (BitVec.ofNat_add k 1).symm, BitVec.toNat_ofNat, Nat.mod_eq_of_lt (by omega)]
              omega
            simp only [intOf, h1, h3]
            omega
        · rw [hbad] at c1
          have HBAD := Lib.hid hbad
          clear hbad
          go_wp2_with fail
          go_ret
          have hls := hlist.out
          rw [HK.out, show n.toNat - k = (n.toNat - (k + 1)) + 1 by have := HLT.out; omega, textsR_bad _ _ _ _ HBAD.out] at hls
          refine ⟨none, 0, [], rfl, by rw [hls]; rfl, (fun i hi => by simp at hi), (fun k off e => by cases e), by rw [hls]; exact H2.out, HO.out.trans HO2.out⟩
      · obtain rfl : k = n.toNat := by omega
        have hcmp : bvi n ≤ bvi (BitVec.ofNat 64 n.toNat) := by rw [hkb, hnb]; omega
        obtain ⟨ao, cap, rfl, hst, hlo⟩ := owns_strs HOWN.out
        have HST := Lib.hid hst
        have HLO := Lib.hid hlo
        clear hkb hnb hst hlo
        go_wp2_with fail
        go_ret
        have hls := hlist.out
        rw [HK.out, Nat.sub_self, textsR] at hls
        refine ⟨ao, cap, ss, rfl, by rw [hls]; simp [preR], HST.out, fun k off e => (HLO.out k off e).1, by rw [hls]; exact HIN.out, HO.out⟩
  · have HM := Lib.hid (mostOf_pos many hpos)
    go_enter Try.func34, Try.ntmps34
    go_wp2_with fail
    rw [← HM.out]
    refine (RNumIn_walk b r _ _ HI.out (by omega)).mono ?_
    rintro e w1 ⟨rfl, hn1, ho1⟩
    have HN1 := Lib.hid hn1
    have HO1 := Lib.hid ho1
    clear hn1 ho1
    generalize (numR r (mostOf many)).1 = n at HL HN1 ⊢
    generalize (numR r (mostOf many)).2 = r1 at HL HN1 h1 ⊢
    go_wp2_with fail
    go_loopw [8, 9] (fun v i wr => ∃ (r' : Rd) (ss : List ByteArray), ss.length ≤ n.toNat ∧ i = .int .u64 (bvi (BitVec.ofNat 64 ss.length)) ∧ RInAt wr b r' ∧ wr.ownsRow w.heap.size 9 1 v ss.length (ss.map Value.string) ∧ Only b w wr ∧
        ss.length + r'.l.length ≤ 1000000 ∧ Hid (listR r many most = preR (bytesOf ss) (textsR most (n.toNat - ss.length) r'))) (fun _ i _ => n.toNat - (intOf i).toNat)
    case atStart => exact ⟨r1, [], Nat.zero_le _, rfl, HN1.out.low ((Below.refl w1.heap.size w1).alloc (Nat.le_refl _) _) HN1.out.lt, owns_zero w1 _ HO1.out.size, Only.of_low HO1.out ((Below.refl w.heap.size w1).alloc HO1.out.size _) (Nat.le_refl _), by simp; omega, HL.out⟩
    case round =>
      obtain ⟨r', ss, hk, rfl, hin, hown, ho, hlen, hlist⟩ := hrel
      have HIN := Lib.hid hin
      have HOWN := Lib.hid hown
      have HO := Lib.hid ho
      clear hin hown ho
      generalize hkk : ss.length = k at hk hlen ⊢
      have HK := Lib.hid hkk
      clear hkk
      have hkb : bvi (BitVec.ofNat 64 k) = (k : Int) := by
        unfold bvi
        rw [BitVec.toNat_ofNat, Nat.mod_eq_of_lt (by omega)]
      have hnb : bvi n = (n.toNat : Int) := rfl
      rcases Nat.lt_or_ge k n.toNat with hlt | hge
      · have hcmp : bvi (BitVec.ofNat 64 k) < bvi n := by rw [hkb, hnb]; omega
        have HKB := Lib.hid hkb
        have HLT := Lib.hid hlt
        clear hkb hnb hlt hk
        go_wp2_with fail
        refine (RTextIn_walk b r' most hm _ HIN.out (by omega)).mono ?_
        rintro e w2 ⟨s, rfl, hs, h2, ho2⟩
        obtain ⟨s2, hs2, hr2, c0, c1⟩ := h2.cells
        have HS := Lib.hid hs
        have H2 := Lib.hid h2
        have HO2 := Lib.hid ho2
        clear hs h2 ho2 hs2 hr2
        cases hbad : (textR r' most).2.bad
        · rw [hbad] at c1
          have huse := textR_uses r' most hbad
          have HBAD := Lib.hid hbad
          clear hbad
          have hown2 := Only.ownsRow HOWN.out HO2.out hblt
          rw [HK.out] at hown2
          have hsz2 : w.heap.size ≤ w2.heap.size := Nat.le_trans HO.out.size HO2.out.size
          go_wp2_with (at_builtin; refine append_one rfl _ _ 23 rfl w2 w.heap.size 9 (.string ⟨#[]⟩) 16 Try.underlying23 infoStr rfl hown2 rfl _ rfl rfl ?c1 ?c2 ?c3 ?_)
          case c1 => omega
          case c2 => omega
          case c3 => omega
          intro v' w3 hown3 hb3 _ _
          have HOWN3 := Lib.hid hown3
          have HB3 := Lib.hid hb3
          clear hown2 hown3 hb3
          go_wp2_with fail
          go_roundw
          case rel =>
            have hls := hlist.out
            rw [HK.out, show n.toNat - k = (n.toNat - (k + 1)) + 1 by have := HLT.out; omega, textsR_step _ _ _ _ HBAD.out] at hls
            refine ⟨(textR r' most).2, ss ++ [s], by rw [List.length_append, HK.out]; have := HLT.out; simp; omega, ?_, H2.out.low HB3.out hblt, ?_, (HO.out.trans HO2.out).of_low HB3.out (Nat.le_refl _), by rw [List.length_append, HK.out]; simp; omega, ?_⟩
            · rw [List.length_append, HK.out]
              exact congrArg (fun x => Value.int .u64 (bvi x)) (by rw [show ([s] : List ByteArray).length = 1 from rfl, BitVec.ofNat_add])
            · rw [List.length_append, HK.out, List.map_append]
              exact HOWN3.out
            · unfold Hid
              rw [hls, List.length_append, HK.out]
              simp [bytesOf, HS.out.out]
          case measure =>
            have h1 := HKB.out
            have h2 := HLT.out
            have h3 : bvi (BitVec.ofNat 64 k + 1#64) = (k : Int) + 1 := by
              have := n.isLt
              unfold bvi
              rw [show BitVec.ofNat 64 k + 1#64 = BitVec.ofNat 64 (k + 1) from (BitVec.ofNat_add k 1).symm, BitVec.toNat_ofNat, Nat.mod_eq_of_lt (by omega)]
              omega
            simp only [intOf, h1, h3]
            omega
        · rw [hbad] at c1
          have HBAD := Lib.hid hbad
          clear hbad
          go_wp2_with fail
          go_ret
          have hls := hlist.out
          rw [HK.out, show n.toNat - k = (n.toNat - (k + 1)) + 1 by have := HLT.out; omega, textsR_bad _ _ _ _ HBAD.out] at hls
          refine ⟨none, 0, [], rfl, by rw [hls]; rfl, (fun i hi => by simp at hi), (fun k off e => by cases e), by rw [hls]; exact H2.out, HO.out.trans HO2.out⟩
      · obtain rfl : k = n.toNat := by omega
        have hcmp : bvi n ≤ bvi (BitVec.ofNat 64 n.toNat) := by rw [hkb, hnb]; omega
        obtain ⟨ao, cap, rfl, hst, hlo⟩ := owns_strs HOWN.out
        have HST := Lib.hid hst
        have HLO := Lib.hid hlo
        clear hkb hnb hst hlo
        go_wp2_with fail
        go_ret
        have hls := hlist.out
        rw [HK.out, Nat.sub_self, textsR] at hls
        refine ⟨ao, cap, ss, rfl, by rw [hls]; simp [preR], HST.out, fun k off e => (HLO.out k off e).1, by rw [hls]; exact HIN.out, HO.out⟩
end Go.Proofs.Ytfdncifnokkclaa
