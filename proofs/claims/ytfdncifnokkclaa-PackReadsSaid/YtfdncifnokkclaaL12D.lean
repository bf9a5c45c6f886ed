/-
  posthornref08.Same; layer 12's 'large'.
-/
import Derived.Test.YtfdncifnokkclaaL12B
import Derived.Test.YtfdncifnokkclaaOpen
namespace Go.Proofs.Ytfdncifnokkclaa
open Go.RowKit

theorem bytes_take {xs ys : List ByteArray} {k : Nat} (ha : k < xs.length) (hb : k < ys.length) :
    bytesOf (xs.take (k + 1)) = bytesOf (ys.take (k + 1)) ↔ bytesOf (xs.take k) = bytesOf (ys.take k) ∧ xs[k] = ys[k] := by
  unfold bytesOf
  rw [List.take_succ_eq_append_getElem ha, List.take_succ_eq_append_getElem hb, List.map_append, List.map_append]
  have hl : (List.map (fun x : ByteArray => x.data.toList) (xs.take k)).length = (List.map (fun x : ByteArray => x.data.toList) (ys.take k)).length := by simp; omega
  constructor
  · intro h
    obtain ⟨h1, h2⟩ := List.append_inj h hl
    refine ⟨h1, ?_⟩
    simp only [List.map_cons, List.map_nil, List.cons.injEq, and_true] at h2
    exact (Is.self xs[k]).inj (by unfold Is; rw [← h2])
  · rintro ⟨h1, h2⟩
    rw [h1, h2]

set_option maxRecDepth 100000 in
set_option maxHeartbeats 1000000 in
theorem Same08_walk (ao bo : Option Addr) (ca cb : Nat) (xs ys : List ByteArray) (w : World) (ha : StrsAt w ao xs) (hb : StrsAt w bo ys) (hl : xs.length ≤ 9223372036854775807) :
    Calls Try.prog 32 #[.slice ao xs.length ca, .slice bo ys.length cb] w fun e w' => e = .returned (.bool (decide (bytesOf xs = bytesOf ys))) ∧ Below w.heap.size w w' := by
  have HA := Lib.hid ha
  have HB := Lib.hid hb
  clear ha hb
  by_cases hne : xs.length = ys.length
  · have hne2 : ((xs.length : Int) != (ys.length : Int)) = false := by rw [bne_eq_false_iff_eq]; omega
    have HNE := Lib.hid hne
    clear hne
    go_enter Try.func32, Try.ntmps32
    go_wp2_with fail
    go_loopw [5] (fun i wr => ∃ k : Nat, k ≤ xs.length ∧ i = .int .i64 k ∧ Below w.heap.size w wr ∧ Hid (bytesOf (xs.take k) = bytesOf (ys.take k))) (fun i _ => xs.length - (intOf i).toNat)
    case atStart => exact ⟨0, Nat.zero_le _, rfl, Below.refl _ _, rfl⟩
    case round =>
      obtain ⟨k, hk, rfl, hbel, hpre⟩ := hrel
      have HBEL := Lib.hid hbel
      clear hbel
      rcases Nat.lt_or_ge k xs.length with hlt | hge
      · have hltb : k < ys.length := by rw [← HNE.out]; exact hlt
        obtain ⟨b1, o1, rfl, z1, c1⟩ := (HA.out.below HBEL.out) k hlt
        obtain ⟨b2, o2, rfl, z2, c2⟩ := (HB.out.below HBEL.out) k hltb
        have HT := Lib.hid (bytes_take hlt hltb)
        have HTA := Lib.hid (show bytesOf xs = bytesOf ys → bytesOf (xs.take (k + 1)) = bytesOf (ys.take (k + 1)) from fun h => by
          unfold bytesOf at h ⊢; rw [List.map_take, List.map_take, h])
        generalize xs[k] = a at c1 HT
        generalize ys[k] = b at c2 HT
        by_cases hq : seq a b = true
        · have HQ := Lib.hid ((seq_iff a b).1 hq)
          go_wp2_with fail
          go_quiet (fail)
          go_wp2_with fail
          go_roundw
          case rel => exact ⟨k + 1, by omega, by go_num, below_drewN HBEL.out _, by unfold Hid; exact HT.out.2 ⟨hpre.out, HQ.out⟩⟩
          case measure => simp [intOf]; omega
        · have hq2 : seq a b = false := by simpa using hq
          have HQ := Lib.hid (seq_no.1 hq2)
          clear hq
          go_wp2_with fail
          go_quiet (fail)
          go_wp2_with fail
          go_ret
          refine ⟨?_, below_drewN HBEL.out _⟩
          rw [decide_eq_false (fun h => HQ.out (HT.out.1 (HTA.out h)).2)]; rfl
      · obtain rfl : k = xs.length := by omega
        have HE := Lib.hid (show bytesOf xs = bytesOf ys by
          have := hpre.out
          rw [List.take_length] at this
          rw [this, HNE.out, List.take_length])
        go_wp2_with fail
        go_ret
        exact ⟨by rw [decide_eq_true HE.out]; rfl, HBEL.out⟩
  · have hne2 : ((xs.length : Int) != (ys.length : Int)) = true := by rw [bne_iff_ne]; omega
    have HE := Lib.hid (show ¬ bytesOf xs = bytesOf ys from fun h => hne (by simpa [bytesOf] using congrArg List.length h))
    clear hne
    go_enter Try.func32, Try.ntmps32
    go_wp2_with fail
    go_ret
    exact ⟨by rw [decide_eq_false HE.out]; rfl, Below.refl _ _⟩

def largeP (ss : List ByteArray) : Bool := decide (100 < ss.length ∨ 4096 < sumLen ss)
theorem sum_bound (ss : List ByteArray) (hs : ∀ s ∈ ss, s.size ≤ 140737488351232) : sumLen ss ≤ ss.length * 140737488351232 := by
  induction ss with
  | nil => simp [sumLen]
  | cons s ss ih =>
    have h1 := ih fun t ht => hs t (by simp [ht])
    have h2 := hs s (by simp)
    simp only [sumLen, List.map_cons, List.sum_cons, List.length_cons] at h1 ⊢
    omega
set_option maxHeartbeats 1000000 in
theorem large12 (ao : Option Addr) (cap : Nat) (ss : List ByteArray) (w : World) (hss : StrsAt w ao ss) (hs : ∀ s ∈ ss, s.size ≤ 140737488351232) (hl : ss.length ≤ 9223372036854775807) :
    Calls Try.prog 16 #[.slice ao ss.length cap] w fun e w' => e = .returned (.bool (largeP ss)) ∧ w = w' := by
  have HS := Lib.hid hss
  have HZ := Lib.hid hs
  clear hss hs
  go_enter Try.func16, Try.ntmps16
  go_wp2_with fail
  go_loop [3, 7] (fun n i => ∃ (k : Nat) (z : Int), k ≤ ss.length ∧ i = .int .i64 k ∧ n = .int .i64 z ∧ Hid (ss.length ≤ 100 → z = (sumLen (ss.take k) : Int))) (fun _ i => ss.length - (intOf i).toNat)
  case atStart => exact ⟨0, 0, Nat.zero_le _, rfl, rfl, fun _ => rfl⟩
  case round =>
    obtain ⟨k, z, hk, rfl, rfl, hz⟩ := hrel
    rcases Nat.lt_or_ge k ss.length with hlt | hge
    · obtain ⟨b, off, rfl, hb, hc⟩ := HS.out k hlt
      have HN := Lib.hid (show ss.length ≤ 100 → z + (ss[k].size : Int) = (sumLen (ss.take (k + 1)) : Int) ∧ -9223372036854775808 ≤ z + (ss[k].size : Int) ∧ z + (ss[k].size : Int) ≤ 9223372036854775807 from fun h => by
        have h1 := hz.out h
        have h2 := sumLen_step ss k hlt
        have h3 := sum_bound (ss.take (k + 1)) (fun s hs => HZ.out s (List.mem_of_mem_take hs))
        have h4 : (ss.take (k + 1)).length ≤ 100 := by rw [List.length_take]; omega
        have h5 : (ss.take (k + 1)).length * 140737488351232 ≤ 100 * 140737488351232 := Nat.mul_le_mul_right _ h4
        omega)
      generalize ss[k] = s at hc HN
      go_wp2_with fail
      go_round
      case rel =>
        refine ⟨k + 1, _, by omega, by go_num, rfl, fun h => ?_⟩
        obtain ⟨e, l1, l2⟩ := HN.out h
        rw [← e]
        simp only [wrap64]
        omega
      case measure => simp [intOf]; omega
    · obtain rfl : k = ss.length := by omega
      rcases Nat.lt_or_ge 100 ss.length with h100 | h100
      · have g1 : decide ((100 : Int) < (ss.length : Int)) = true := decide_eq_true (by omega)
        have HX := Lib.hid (show largeP ss = true from decide_eq_true (Or.inl h100))
        clear h100
        go_wp2_with fail
        go_ret
        exact ⟨by rw [HX.out]; rfl, rfl⟩
      · have g1 : decide ((100 : Int) < (ss.length : Int)) = false := decide_eq_false (by omega)
        have hzz : z = (sumLen ss : Int) := by have := hz.out h100; rwa [List.take_length] at this
        have HX := Lib.hid (show largeP ss = decide (4096 < z) by
          unfold largeP
          rw [Bool.eq_iff_iff, decide_eq_true_iff, decide_eq_true_iff]
          omega)
        clear h100 hzz hz
        go_wp2_with fail
        go_ret
        exact ⟨by rw [HX.out]; rfl, rfl⟩
end Go.Proofs.Ytfdncifnokkclaa
