/-
  Layer 1's laws, walked: OctetSame, OctetParts.
-/
import Derived.Test.YtfdncifnokkclaaL01A
import Derived.RegionCalls
import Derived.Deep.QuietTactic
import Derived.BigQuiet
namespace Go.Proofs.Ytfdncifnokkclaa
open Go.RowKit

theorem set_same (l : List UInt8) (i : Nat) (h : i < l.length) (y : UInt8) : (l = l.set i (l[i] ^^^ y)) ↔ y = 0 := by
  constructor
  · intro e
    have e2 : l[i] = (l.set i (l[i] ^^^ y))[i]'(by simpa using h) := by
      congr 1
    rw [List.getElem_set_self] at e2
    have e3 : l[i] ^^^ l[i] = l[i] ^^^ (l[i] ^^^ y) := by rw [← e2]
    rw [UInt8.xor_self, ← UInt8.xor_assoc, UInt8.xor_self, UInt8.zero_xor] at e3
    exact e3.symm
  · rintro rfl
    rw [UInt8.xor_zero, List.set_getElem_self]

set_option maxRecDepth 100000 in
set_option maxHeartbeats 2000000 in
theorem OctetSame_w (s : ByteArray) (ad : BitVec 16) (y : BitVec 8) (w : World) :
    Calls Try.prog 14 #[.string s, .int .u16 (bvi ad), .int .u8 (bvi y)] w fun e w' => e = .returned (.bool true) ∧ Below w.heap.size w w' := by
  rcases Nat.lt_or_ge 4096 s.size with hbig | hsm
  · go_enter Try.func14, Try.ntmps14
    go_wp2_with fail
    refine (awake01 _).mono ?_
    rintro e w1 ⟨rfl, hb1⟩
    go_wp2_with fail
    go_ret
    exact ⟨rfl, hb1⟩
  · have n1 : seq s (s ++ ⟨#[0]⟩) = false := by
      refine seq_no.2 fun e => ?_
      have := congrArg ByteArray.size e
      rw [ByteArray.size_append] at this
      have h1 : (ByteArray.mk #[0]).size = 1 := rfl
      omega
    have n2 : seq (⟨#[0]⟩ ++ s) s = false := by
      refine seq_no.2 fun e => ?_
      have := congrArg ByteArray.size e
      rw [ByteArray.size_append] at this
      have h1 : (ByteArray.mk #[0]).size = 1 := rfl
      omega
    have N1 := Lib.hid n1
    have N2 := Lib.hid n2
    have hz1 : (ByteArray.mk #[0] ++ s).size = 1 + s.size := by rw [ByteArray.size_append]; rfl
    have HZ1 := Lib.hid hz1
    clear n1 n2 hz1
    have ad1 : ∀ wx, (Op.stringOp .add s (ByteArray.mk #[0])).run Try.prog wx = .ok (.string (s ++ ByteArray.mk #[0])) wx := fun wx => run_string_add_sum wx s _ (by
      rw [show (ByteArray.mk #[0]).size = 1 from rfl]; omega)
    have ad2 : ∀ wx, (Op.stringOp .add (ByteArray.mk #[0]) s).run Try.prog wx = .ok (.string (ByteArray.mk #[0] ++ s)) wx := fun wx => run_string_add_sum wx _ s (by
      rw [show (ByteArray.mk #[0]).size = 1 from rfl]; omega)
    have h0 := bvi_nonneg ad
    by_cases hs0 : s.size = 0
    · have hs0b : ((s.size : Int) == 0) = true := by rw [beq_iff_eq]; omega
      have HS := Lib.hid hs0
      clear hs0
      go_enter Try.func14, Try.ntmps14
      go_wp2_with fail
      refine (awake01 _).mono ?_
      rintro e w1 ⟨rfl, hb1⟩
      go_wp2_with fail
      refine (Same_walk s s (by omega) _).mono ?_
      rintro e w2 ⟨rfl, hb2⟩
      rw [seq_self]
      go_wp2_with fail
      refine (Same_walk s _ (by omega) _).mono ?_
      rintro e w3 ⟨rfl, hb3⟩
      rw [N1.out]
      go_wp2_with fail
      refine (Same_walk _ s (by have := HZ1.out; omega) _).mono ?_
      rintro e w4 ⟨rfl, hb4⟩
      rw [N2.out]
      go_wp2_with fail
      go_ret
      exact ⟨rfl, bthen (bthen (bthen hb1 hb2) hb3) hb4⟩
    · have hs0b : ((s.size : Int) == 0) = false := by rw [beq_eq_false_iff_ne]; omega
      have hsp : 0 < s.size := by omega
      clear hs0
      have g1 := Int.emod_nonneg (bvi ad) (show (s.size : Int) ≠ 0 by omega)
      have g2 := Int.emod_lt_of_pos (bvi ad) (show (0 : Int) < s.size by omega)
      obtain ⟨i, hi⟩ : ∃ i : Nat, bvi ad % (s.size : Int) = (i : Int) := ⟨_, (Int.toNat_of_nonneg g1).symm⟩
      have hil : i < s.size := by omega
      clear g1 g2
      go_enter Try.func14, Try.ntmps14
      go_wp2_with fail
      refine (awake01 _).mono ?_
      rintro e w1 ⟨rfl, hb1⟩
      go_wp2_with fail
      refine (Same_walk s s (by omega) _).mono ?_
      rintro e w2 ⟨rfl, hb2⟩
      rw [seq_self]
      go_wp2_with fail
      refine (Same_walk s _ (by omega) _).mono ?_
      rintro e w3 ⟨rfl, hb3⟩
      rw [N1.out]
      go_wp2_with fail
      refine (Same_walk _ s (by have := HZ1.out; omega) _).mono ?_
      rintro e w4 ⟨rfl, hb4⟩
      rw [N2.out]
      have hcv := run_bytes_of_string (P := Try.prog) w4 9 27 5 s Try.underlying9 Try.underlying27 Try.underlying5
      have hrow0 := (RowAt.new w4 (bytesRow s (grownCap w4 s.size 0 5)) 5 ((bytesRow s (grownCap w4 s.size 0 5)).size, (bytesRow s (grownCap w4 s.size 0 5)).size + 1)).drew
      have ht0 := bytesRow_take s (grownCap w4 s.size 0 5)
      have hs1 := bytesRow_size s (grownCap w4 s.size 0 5)
      generalize grownCap w4 s.size 0 5 = cap at hcv hrow0 ht0 hs1
      generalize bytesRow s cap = row at hcv hrow0 ht0 hs1
      have hl : s.data.toList.length = s.size := by rw [Array.length_toList]; rfl
      have c1 := hrow0.cell (take_cell ht0 (i := i) (by rw [hl]; exact hil) hil)
      have f1 := hrow0.free (i := i) (by simp; omega)
      have hlu : i < s.data.toList.length := by rw [hl]; exact hil
      have HS := Lib.hid (set_same s.data.toList i hlu ⟨y⟩)
      generalize s.data.toList[i] = v at c1 HS
      have hst := run_str (P := Try.prog) ((w4.alloc (.cells row 5 (row.size, row.size + 1))).setCell ⟨w4.heap.size, i, none⟩ (.int .u8 (bvi (v.toBitVec ^^^ y)))).drew 27 5 Try.underlying27 Try.underlying5 9 Try.underlying9 w4.heap.size s.size cap _ _ _ (s.data.toList.set i (v ^^^ ⟨y⟩)) ((RowAt.new w4 row _ _).store i _).drew (by rw [List.length_set, hl]) (take_set ht0 i (v ^^^ (⟨y⟩ : UInt8)))
      have hbW : Below w4.heap.size w4 ((w4.alloc (.cells row 5 (row.size, row.size + 1))).setCell ⟨w4.heap.size, i, none⟩ (.int .u8 (bvi (v.toBitVec ^^^ y)))).drew := (((Below.refl _ _).alloc (Nat.le_refl _) _).setCell (p := ⟨_, _, _⟩) (Nat.le_refl _) _).drew
      have hr := Is.of (s.data.toList.set i (v ^^^ ⟨y⟩))
      generalize ByteArray.mk (s.data.toList.set i (v ^^^ ⟨y⟩)).toArray = r at hst hr
      have HR := Lib.hid hr
      have HI := Lib.hid hi
      clear hr ht0 hs1 hrow0 hl hlu
      go_wp2_with fail
      refine (Same_walk s r (by omega) _).mono ?_
      rintro e w5 ⟨rfl, hb5⟩
      have hq : (seq s r == (bvi y == 0)) = true := by
        rw [beq_iff_eq, seq_eq (Is.self s) HR.out, Bool.eq_iff_iff, decide_eq_true_iff, HS.out, beq_iff_eq, show (0 : Int) = bvi (0#8) from rfl, bvi_inj]
        exact ⟨fun e => congrArg UInt8.toBitVec e, fun e => by rw [e]; rfl⟩
      go_wp2_with fail
      go_ret
      exact ⟨rfl, bthen (bthen (bthen (bthen (bthen hb1 hb2) hb3) hb4) hbW) hb5⟩

theorem rol_both (x : BitVec 32) (n m : Int) : rolI (rolI x n) m = rolI x (n + m) := by
  unfold rolI
  rw [rol_rol, ← rol_mod x ((n % 32).toNat + (m % 32).toNat)]
  congr 1
  have h1 := Int.emod_nonneg n (show (32 : Int) ≠ 0 by omega)
  have h2 := Int.emod_nonneg m (show (32 : Int) ≠ 0 by omega)
  omega
theorem lowL_get (x : BitVec 64) (n i : Nat) (h : i < (lowL x n).length) : (lowL x n)[i] = ⟨(x >>> (8 * i)).setWidth 8⟩ := by
  induction n with
  | zero => simp [lowL] at h
  | succ n ih =>
    simp only [lowL]
    rw [List.getElem_append]
    split
    · exact ih _
    · rename_i h2
      rw [lowL_length] at h h2
      have : i = n := by omega
      subst this
      simp [lowL_length]
theorem lowL_zero (x : BitVec 64) (n i : Nat) (h : i < (lowL x n).length) (h8 : 8 ≤ i) : (lowL x n)[i] = 0 := by
  rw [lowL_get]
  have : x >>> (8 * i) = 0#64 := by
    apply BitVec.eq_of_toNat_eq
    rw [BitVec.toNat_ushiftRight, Nat.shiftRight_eq_div_pow]
    have h1 := x.isLt
    have h2 : 2 ^ 64 ≤ 2 ^ (8 * i) := Nat.pow_le_pow_right (by omega) (by omega)
    rw [Nat.div_eq_of_lt (by omega)]; rfl
  rw [this]; rfl

set_option maxRecDepth 100000 in
set_option maxHeartbeats 2000000 in
theorem OctetParts_w (x : BitVec 64) (n m : BitVec 8) (w : World) :
    Calls Try.prog 12 #[.int .u64 (bvi x), .int .u8 (bvi n), .int .u8 (bvi m)] w fun e w' => e = .returned (.bool true) ∧ Below w.heap.size w w' := by
  have h0 := bvi_nonneg n
  have h1 : bvi n < 256 := by have := bvi_lt n; simpa using this
  have h2 := bvi_nonneg m
  have h3 : bvi m < 256 := by have := bvi_lt m; simpa using this
  have hcut : min (bvi n) 64 = (cut (bvi n) : Int) := by unfold cut; omega
  have hc64 : cut (bvi n) ≤ 64 := by unfold cut; omega
  generalize hc : cut (bvi n) = c at hcut hc64
  have HC := Lib.hid hc
  clear hc
  go_enter Try.func12, Try.ntmps12
  go_wp2_with fail
  refine (awake01 _).mono ?_
  rintro e w1 ⟨rfl, hb1⟩
  go_wp2_with fail
  refine (Left_walk _ _ _).mono ?_
  rintro e w2 ⟨rfl, rfl⟩
  go_wp2_with fail
  refine (Left_walk _ _ _).mono ?_
  rintro e w2 ⟨rfl, rfl⟩
  rw [rol_both]
  go_wp2_with fail
  refine (Left_walk _ _ _).mono ?_
  rintro e w2 ⟨rfl, rfl⟩
  go_wp2_with fail
  refine (Low_walk _ _ _).mono ?_
  rintro e w2 ⟨r1, rfl, hr1, hb2⟩
  go_wp2_with fail
  refine (High_walk _ _ _).mono ?_
  rintro e w3 ⟨r2, rfl, hr2, hb3⟩
  rw [HC.out] at hr1 hr2
  have s1 : r1.size = c := by rw [hr1.size, lowL_length]
  have s2 : r2.size = c := by rw [hr2.size, highL_length]
  have HR1 := Lib.hid hr1
  have HR2 := Lib.hid hr2
  clear hr1 hr2
  go_wp2_with fail
  go_loopw [53] (fun i wr => ∃ k : Nat, k ≤ c ∧ i = .int .i64 k ∧ Below w.heap.size w wr) (fun i _ => c - (intOf i).toNat)
  case atStart => exact ⟨0, Nat.zero_le _, rfl, bthen (bthen hb1 hb2) hb3⟩
  case round =>
    obtain ⟨k, hk, rfl, hbel⟩ := hrel
    have z1 : k ≤ r1.size := by omega
    rcases Nat.lt_or_ge k c with hlt | hge
    · have g1 : k < r1.size := by omega
      have g2 : c - 1 - k < r2.size := by omega
      have e1 : (bvi r1[k].toBitVec != bvi r2[c - 1 - k].toBitVec) = false := by
        rw [bne_eq_false_iff_eq]
        congr 2
        rw [HR1.out.get k g1, HR2.out.get (c - 1 - k) g2]
        simp only [highL, List.getElem_reverse, lowL_length]
        congr 1
        omega
      have e2 : 8 ≤ k → (bvi r1[k].toBitVec != 0) = false := by
        intro h8
        rw [HR1.out.get k g1, lowL_zero _ _ _ _ h8]; rfl
      have v1 : IntKind.i64.wrap ((c : Int) - 1) = (c : Int) - 1 := IntWalk.i64_in _ (by omega)
      have v2 : IntKind.i64.wrap ((c : Int) - 1 - (k : Int)) = (c : Int) - 1 - (k : Int) := IntWalk.i64_in _ (by omega)
      have v3 : (0 : Int) ≤ (c : Int) - 1 - (k : Int) := by omega
      have v4 : (k : Int) ≤ (c : Int) - 1 := by omega
      have v6 : (c : Int) - 1 - (k : Int) < (c : Int) := by omega
      have v5 : ((c : Int) - 1 - (k : Int)).toNat = c - 1 - k := by omega
      rcases Nat.lt_or_ge k 8 with h8 | h8
      · have d8 : decide ((8 : Int) ≤ (k : Int)) = false := by simp; omega
        clear e2
        go_wp2_with fail
        go_quiet (fail)
        go_wp2_with fail
        go_roundw
        case rel => exact ⟨k + 1, by omega, by go_num, below_drewN hbel _⟩
        case measure => simp [intOf]; omega
      · have d8 : decide ((8 : Int) ≤ (k : Int)) = true := by simp; omega
        have e3 := e2 h8
        clear e2
        go_wp2_with fail
        go_quiet (fail)
        go_wp2_with fail
        go_roundw
        case rel => exact ⟨k + 1, by omega, by go_num, below_drewN hbel _⟩
        case measure => simp [intOf]; omega
    · obtain rfl : k = c := by omega
      go_wp2_with fail
      go_ret
      exact ⟨rfl, hbel⟩
end Go.Proofs.Ytfdncifnokkclaa
