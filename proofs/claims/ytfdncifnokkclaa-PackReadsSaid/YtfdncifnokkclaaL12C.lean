/-
  Layer 12's laws, walked: PackBroken.
-/
import Derived.Test.YtfdncifnokkclaaL12B
namespace Go.Proofs.Ytfdncifnokkclaa
open Go.RowKit

theorem InAt.alloc2 {w : World} {b : Nat} {r : Rd} (h : InAt w b r) (o p : Obj) : InAt ((w.alloc o).alloc p) b r := by
  obtain ⟨s, hs, hr⟩ := h
  exact ⟨s, hs, (hr.alloc o).alloc p⟩
theorem Done_is (b : Nat) (r : Rd) (d : Int) (w : World) (h : InAt w b r) (hd : doneR r = d) :
    Calls Try.prog 28 #[.pointer (some ⟨b, 0, none⟩)] w fun e w' => e = .returned (.int .i64 d) ∧ w = w' := by
  subst hd
  exact Done_walk b r w h
theorem Left_is (b : Nat) (r : Rd) (n : Nat) (w : World) (h : InAt w b r) (hn : r.l.length = n) :
    Calls Try.prog 35 #[.pointer (some ⟨b, 0, none⟩)] w fun e w' => e = .returned (.int .i64 n) ∧ w = w' := by
  subst hn
  exact Left_in b r w h
theorem textR_broken (m : Int) : textR Rd.broken m = ([], Rd.broken) := rfl
theorem listR_broken (k m : Int) : listR Rd.broken k m = (some [], Rd.broken) := rfl
theorem numR_stays (r : Rd) (m : BitVec 64) (h2 : (numR r m).2.bad = true) : (numR r m).2 = Rd.broken := by
  revert h2
  unfold numR
  split
  · split
    · intro _; rfl
    · split
      · intro _; rfl
      · intro h; cases h
  · intro _; rfl
theorem takeR_stays (r : Rd) (n : Nat) (h2 : (takeR r n).2.bad = true) : (takeR r n).2 = Rd.broken := by
  revert h2
  unfold takeR
  split
  · intro _; rfl
  · intro h; cases h
theorem textR_stays (r : Rd) (m : Int) : (textR r m).2.bad = true → (textR r m).2 = Rd.broken := takeR_stays _ _
theorem takeR_len (r : Rd) (n : Nat) : (takeR r n).2.l.length ≤ r.l.length := by
  unfold takeR
  split
  · exact Nat.zero_le _
  · simp
theorem textR_len (r : Rd) (m : Int) : (textR r m).2.l.length ≤ r.l.length := Nat.le_trans (takeR_len _ _) (numR_len _ _)
theorem textR_most (r : Rd) (m : Int) (hm : m ≤ 9223372036854775807) : ((textR r m).1.length : Int) ≤ max m 0 := by
  have h1 := numR_most r (mostOf m)
  have h2 := mostOf_toNat m hm
  unfold textR takeR
  split
  · simp; omega
  · simp only [List.length_take]; omega
theorem textsR_len (m : Int) (n : Nat) (r : Rd) : (textsR m n r).2.l.length ≤ r.l.length := by
  induction n generalizing r with
  | zero => exact Nat.le_refl _
  | succ n ih =>
    have h1 := textR_len r m
    have h2 := ih (textR r m).2
    unfold textsR
    simp only []
    split
    · exact h1
    · split <;> (rename_i e; rw [e] at h2; exact Nat.le_trans h2 h1)
theorem textsR_stays (m : Int) (n : Nat) (r : Rd) (h : r.bad = true → r = Rd.broken) : (textsR m n r).2.bad = true → (textsR m n r).2 = Rd.broken := by
  induction n generalizing r with
  | zero => exact h
  | succ n ih =>
    have h1 := textR_stays r m
    have h2 := ih (textR r m).2 h1
    unfold textsR
    simp only []
    split
    · exact h1
    · split <;> (rename_i e; rw [e] at h2; exact h2)
theorem textsR_count (m : Int) (n : Nat) (r : Rd) : ((textsR m n r).1.getD []).length ≤ n := by
  induction n generalizing r with
  | zero => exact Nat.le_refl _
  | succ n ih =>
    have h2 := ih (textR r m).2
    unfold textsR
    simp only []
    split
    · exact Nat.zero_le _
    · split <;> (rename_i e; rw [e] at h2; simp at h2 ⊢)
      omega
theorem listR_len (r : Rd) (k m : Int) : (listR r k m).2.l.length ≤ r.l.length := Nat.le_trans (textsR_len _ _ _) (numR_len _ _)
theorem listR_stays (r : Rd) (k m : Int) : (listR r k m).2.bad = true → (listR r k m).2 = Rd.broken := by
  unfold listR
  refine textsR_stays _ _ _ ?_
  obtain ⟨l, bd⟩ := r
  cases bd
  · exact numR_stays _ _
  · intro _; rw [numR_bad]
theorem listR_most (r : Rd) (k m : Int) (hk : k ≤ 9223372036854775807) : (((listR r k m).1.getD []).length : Int) ≤ max k 0 := by
  have h1 := numR_most r (mostOf k)
  have h2 := mostOf_toNat k hk
  have h3 := textsR_count m (numR r (mostOf k)).1.toNat (numR r (mostOf k)).2
  unfold listR
  omega
theorem below_alloc2 {B : Nat} {w w' : World} (h : Below B w w') (o p : Obj) (hB : B ≤ w'.heap.size) : Below B w ((w'.alloc o).alloc p) := (h.alloc hB o).alloc (by simp; omega) p
/-- What is asked for. -/
structure AskV where
  kind : Int
  k : Int
  m : Int
  n : BitVec 64
/-- At 'ao' lie the asks. -/
def AsksAt (w : World) (ao : Option Addr) (aks : List AskV) : Prop :=
  ∀ i (h : i < aks.length), ∃ b off, ao = some ⟨b, off, none⟩ ∧ b < w.heap.size ∧ w.cell? ⟨b, off + i * 4, none⟩ = some (.int .i64 aks[i].kind) ∧
    w.cell? ⟨b, off + i * 4 + 1, none⟩ = some (.int .i64 aks[i].k) ∧ w.cell? ⟨b, off + i * 4 + 2, none⟩ = some (.int .i64 aks[i].m) ∧ w.cell? ⟨b, off + i * 4 + 3, none⟩ = some (.int .u64 (bvi aks[i].n))
/-- Numbers that are numbers of Go. -/
def AskV.ok (a : AskV) : Prop := (-9223372036854775808 ≤ a.k ∧ a.k ≤ 9223372036854775807) ∧ (-9223372036854775808 ≤ a.m ∧ a.m ≤ 9223372036854775807)

set_option maxRecDepth 100000 in
set_option maxHeartbeats 2000000 in
theorem PackBroken_w (s : ByteArray) (ao : Option Addr) (cap : Nat) (aks : List AskV) (w : World) (has : AsksAt w ao aks) (hok : ∀ a ∈ aks, a.ok) :
    Calls Try.prog 8 #[.string s, .slice ao aks.length cap] w fun e w' => e = .returned (.bool true) ∧ Below w.heap.size w w' := by
  rcases Nat.lt_or_ge 4096 s.size with hbig | hs
  · go_enter Try.func8, Try.ntmps8
    go_wp2_with fail
    refine (awake12 _).mono ?_
    rintro e w1 ⟨rfl, hb1⟩
    go_wp2_with fail
    go_ret
    exact ⟨rfl, hb1⟩
  · go_enter Try.func8, Try.ntmps8
    go_wp2_with fail
    refine (awake12 _).mono ?_
    rintro e w1 ⟨rfl, hb1⟩
    go_wp2_with fail
    refine (From_walk s _).mono ?_
    rintro e w2 ⟨rfl, rfl⟩
    have hI0 : InAt (w1.alloc (.cells #[.string s, .bool false] 47)) w1.heap.size ⟨s.data.toList, false⟩ := ⟨s, Is.self s, RowAt.new w1 _ _ _⟩
    have hb2 : Below w.heap.size w (w1.alloc (.cells #[.string s, .bool false] 47)) := hb1.alloc hb1.size _
    have zW : w.heap.size ≤ w1.heap.size := hb1.size
    generalize w1.alloc (.cells #[.string s, .bool false] 47) = w2 at hI0 hb2 ⊢
    generalize w1.heap.size = ib at hI0 zW ⊢
    have HI0 := Lib.hid hI0
    have HB2 := Lib.hid hb2
    have HAS := Lib.hid has
    have HOK := Lib.hid hok
    have hl0 : s.data.toList.length ≤ 4096 := by rw [len_list]; exact hs
    clear hI0 hb2 has hok hb1
    go_wp2_with fail
    go_loopw [6, 7] (fun bv i wr => ∃ (k : Nat) (r : Rd), k ≤ aks.length ∧ i = .int .i64 k ∧ bv = .bool r.bad ∧ (r.bad = true → r = Rd.broken) ∧ r.l.length ≤ 4096 ∧ InAt wr ib r ∧ Below w.heap.size w wr) (fun _ i _ => aks.length - (intOf i).toNat)
    case atStart => exact ⟨0, ⟨s.data.toList, false⟩, Nat.zero_le _, rfl, rfl, (fun h => by cases h), hl0, HI0.out, HB2.out⟩
    case round =>
      obtain ⟨k, r, hk, rfl, rfl, hbr, hrl, hI, hbel⟩ := hrel
      have HI := Lib.hid hI
      have HBR := Lib.hid hbr
      have HB := Lib.hid hbel
      clear hI hbr hbel
      rcases Nat.lt_or_ge k aks.length with hlt | hge
      · rcases Nat.lt_or_ge k 100 with h100 | h100
        · obtain ⟨bb, off, rfl, hbl, c0, c1, c2, c3⟩ := HAS.out k hlt
          have e0 := HB.out.cell (p := ⟨bb, off + k * 4, none⟩) hbl
          have e1 := HB.out.cell (p := ⟨bb, off + k * 4 + 1, none⟩) hbl
          have e2 := HB.out.cell (p := ⟨bb, off + k * 4 + 2, none⟩) hbl
          have e3 := HB.out.cell (p := ⟨bb, off + k * 4 + 3, none⟩) hbl
          rw [c0] at e0
          rw [c1] at e1
          rw [c2] at e2
          rw [c3] at e3
          have hd1 : decide ((k : Int) < (aks.length : Int)) = true := decide_eq_true (by omega)
          have hd2 : decide ((k : Int) < 100) = true := decide_eq_true (by omega)
          clear c0 c1 c2 c3
          have hask := HOK.out aks[k] (List.getElem_mem hlt)
          generalize aks[k] = ask at e0 e1 e2 e3 hask
          obtain ⟨kd, K, M, N⟩ := ask
          simp only [] at e0 e1 e2 e3
          have hM : -9223372036854775808 ≤ M ∧ M ≤ 9223372036854775807 := hask.2
          have hK : -9223372036854775808 ≤ K ∧ K ≤ 9223372036854775807 := hask.1
          clear hask
          have hN0 : ¬ (bvi N < 0) := by have := bvi_nonneg N; omega
          have hM0 : ¬ (max M 0 < 0) := by omega
          have hK0 : ¬ (max K 0 < 0) := by omega
          obtain ⟨l, bd⟩ := r
          cases bd
          · clear HBR
            by_cases k0 : kd = 0
            · have k0b : (kd == 0) = true := by rw [beq_iff_eq]; exact k0
              clear k0
              go_wp2_with fail
              go_region_with (go_at_call 27; refine (NumIn_walk ib ⟨l, false⟩ N _ ((HI.out.alloc2 _ _).drew) (by simp only at hrl ⊢; omega)).mono ?_; rintro e w3 ⟨rfl, h3, ho3⟩)
              have hnv : ¬ (bvi N < bvi (numR ⟨l, false⟩ N).1) := by have := numR_most ⟨l, false⟩ N; unfold bvi; omega
              have hl3 := numR_len ⟨l, false⟩ N
              have hb3 := numR_stays ⟨l, false⟩ N
              generalize (numR ⟨l, false⟩ N).1 = nv at hnv ⊢
              generalize (numR ⟨l, false⟩ N).2 = r2 at h3 hl3 hb3
              have hx3 : w3.heap[wr.heap.size]? = some (.cells #[.int .i64 kd, .int .i64 K, .int .i64 M, .int .u64 (bvi N)] 56 (0, 0)) := (ho3.block wr.heap.size (by simp <;> omega) (by have := HI.out.lt; omega)).trans ((RowAt.new wr _ _ _).alloc (.cells #[] 9)).out
              have x1 : w3.cell? ⟨wr.heap.size, 1, none⟩ = some (.int .i64 K) := RowAt.cell (i := 1) hx3 rfl
              have x2 : w3.cell? ⟨wr.heap.size, 2, none⟩ = some (.int .i64 M) := RowAt.cell (i := 2) hx3 rfl
              have x3 : w3.cell? ⟨wr.heap.size, 3, none⟩ = some (.int .u64 (bvi N)) := RowAt.cell (i := 3) hx3 rfl
              have z3 : w.heap.size ≤ ((((wr.alloc (.cells #[.int .i64 kd, .int .i64 K, .int .i64 M, .int .u64 (bvi N)] 56)).alloc (.cells #[] 9)).drew)).heap.size := by have := HB.out.size; simp <;> omega
              have HB3 := Lib.hid (show Below w.heap.size w w3 from Below.trans ((below_alloc2 HB.out _ _ HB.out.size).drew) (ho3.below zW z3))
              have H3 := Lib.hid h3
              clear h3 ho3 hx3 z3
              obtain ⟨l2, bd2⟩ := r2
              cases bd2
              · have HZ := Lib.hid (show l2.length ≤ 4096 from Nat.le_trans hl3 hrl)
                clear hl3 hb3
                cases l2 with
                | nil =>
                  go_wp2_with fail
                  refine (Done_is ib _ 0 _ H3.out rfl).mono ?_
                  rintro e w4 ⟨rfl, rfl⟩
                  go_wp2_with fail
                  go_quiet ((first | (go_at_call 28; exact quiet_left (Done_is ib _ 0 _ H3.out rfl)) | (go_at_call 35; exact quiet_left (Left_is ib _ 0 _ H3.out rfl))))
                  go_wp2_with fail
                  go_roundw
                  case rel => exact ⟨k + 1, _, by omega, by go_num, rfl, (fun h => by cases h), HZ.out, H3.out, below_drewN HB3.out _⟩
                  case measure => simp [intOf]; omega
                | cons y l2 =>
                  have hy : ((((y :: l2).length : Nat) : Int) == 0) = false := by rw [beq_eq_false_iff_ne]; simp; omega
                  generalize hyl : (y :: l2).length = yl at hy
                  have HY := Lib.hid hyl
                  clear hyl
                  go_wp2_with fail
                  refine (Done_is ib _ 5 _ H3.out rfl).mono ?_
                  rintro e w4 ⟨rfl, rfl⟩
                  go_wp2_with fail
                  go_quiet ((first | (go_at_call 28; exact quiet_left (Done_is ib _ 5 _ H3.out rfl)) | (go_at_call 35; exact quiet_left (Left_is ib _ yl _ H3.out HY.out))))
                  go_wp2_with fail
                  go_roundw
                  case rel => exact ⟨k + 1, _, by omega, by go_num, rfl, (fun h => by cases h), HZ.out, H3.out, below_drewN HB3.out _⟩
                  case measure => simp [intOf]; omega
              · have HZ := Lib.hid (hb3 rfl)
                clear hl3 hb3
                go_wp2_with fail
                refine (Done_is ib _ 2 _ H3.out rfl).mono ?_
                rintro e w4 ⟨rfl, rfl⟩
                go_wp2_with fail
                go_quiet (fail)
                go_wp2_with fail
                go_roundw
                case rel => exact ⟨k + 1, _, by omega, by go_num, rfl, (fun _ => HZ.out), by rw [HZ.out]; decide, H3.out, below_drewN HB3.out _⟩
                case measure => simp [intOf]; omega
            have k0b : (kd == 0) = false := by rw [beq_eq_false_iff_ne]; exact k0
            clear k0
            by_cases k1 : kd = 1
            · have k1b : (kd == 1) = true := by rw [beq_iff_eq]; exact k1
              clear k1
              go_wp2_with fail
              go_region_with (go_at_call 30; refine (TextIn_walk ib ⟨l, false⟩ M hM.2 _ ((HI.out.alloc2 _ _).drew) (by simp only at hrl ⊢; omega)).mono ?_; rintro e w3 ⟨tv, rfl, hs3, h3, ho3⟩)
              have hl3 := textR_len ⟨l, false⟩ M
              have hb3 := textR_stays ⟨l, false⟩ M
              have hm3 := textR_most ⟨l, false⟩ M hM.2
              have ht3 := hs3.size
              have t3 : ¬ (max M 0 < (tv.size : Int)) := by omega
              generalize (textR ⟨l, false⟩ M).2 = r2 at h3 hl3 hb3
              clear hm3 ht3 hs3
              have hx3 : w3.heap[wr.heap.size]? = some (.cells #[.int .i64 kd, .int .i64 K, .int .i64 M, .int .u64 (bvi N)] 56 (0, 0)) := (ho3.block wr.heap.size (by simp <;> omega) (by have := HI.out.lt; omega)).trans ((RowAt.new wr _ _ _).alloc (.cells #[] 9)).out
              have x1 : w3.cell? ⟨wr.heap.size, 1, none⟩ = some (.int .i64 K) := RowAt.cell (i := 1) hx3 rfl
              have x2 : w3.cell? ⟨wr.heap.size, 2, none⟩ = some (.int .i64 M) := RowAt.cell (i := 2) hx3 rfl
              have x3 : w3.cell? ⟨wr.heap.size, 3, none⟩ = some (.int .u64 (bvi N)) := RowAt.cell (i := 3) hx3 rfl
              have z3 : w.heap.size ≤ ((((wr.alloc (.cells #[.int .i64 kd, .int .i64 K, .int .i64 M, .int .u64 (bvi N)] 56)).alloc (.cells #[] 9)).drew)).heap.size := by have := HB.out.size; simp <;> omega
              have HB3 := Lib.hid (show Below w.heap.size w w3 from Below.trans ((below_alloc2 HB.out _ _ HB.out.size).drew) (ho3.below zW z3))
              have H3 := Lib.hid h3
              clear h3 ho3 hx3 z3
              obtain ⟨l2, bd2⟩ := r2
              cases bd2
              · have HZ := Lib.hid (show l2.length ≤ 4096 from Nat.le_trans hl3 hrl)
                clear hl3 hb3
                cases l2 with
                | nil =>
                  go_wp2_with fail
                  refine (Done_is ib _ 0 _ H3.out rfl).mono ?_
                  rintro e w4 ⟨rfl, rfl⟩
                  go_wp2_with fail
                  go_quiet ((first | (go_at_call 28; exact quiet_left (Done_is ib _ 0 _ H3.out rfl)) | (go_at_call 35; exact quiet_left (Left_is ib _ 0 _ H3.out rfl))))
                  go_wp2_with fail
                  go_roundw
                  case rel => exact ⟨k + 1, _, by omega, by go_num, rfl, (fun h => by cases h), HZ.out, H3.out, below_drewN HB3.out _⟩
                  case measure => simp [intOf]; omega
                | cons y l2 =>
                  have hy : ((((y :: l2).length : Nat) : Int) == 0) = false := by rw [beq_eq_false_iff_ne]; simp; omega
                  generalize hyl : (y :: l2).length = yl at hy
                  have HY := Lib.hid hyl
                  clear hyl
                  go_wp2_with fail
                  refine (Done_is ib _ 5 _ H3.out rfl).mono ?_
                  rintro e w4 ⟨rfl, rfl⟩
                  go_wp2_with fail
                  go_quiet ((first | (go_at_call 28; exact quiet_left (Done_is ib _ 5 _ H3.out rfl)) | (go_at_call 35; exact quiet_left (Left_is ib _ yl _ H3.out HY.out))))
                  go_wp2_with fail
                  go_roundw
                  case rel => exact ⟨k + 1, _, by omega, by go_num, rfl, (fun h => by cases h), HZ.out, H3.out, below_drewN HB3.out _⟩
                  case measure => simp [intOf]; omega
              · have HZ := Lib.hid (hb3 rfl)
                clear hl3 hb3
                go_wp2_with fail
                refine (Done_is ib _ 2 _ H3.out rfl).mono ?_
                rintro e w4 ⟨rfl, rfl⟩
                go_wp2_with fail
                go_quiet (fail)
                go_wp2_with fail
                go_roundw
                case rel => exact ⟨k + 1, _, by omega, by go_num, rfl, (fun _ => HZ.out), by rw [HZ.out]; decide, H3.out, below_drewN HB3.out _⟩
                case measure => simp [intOf]; omega
            have k1b : (kd == 1) = false := by rw [beq_eq_false_iff_ne]; exact k1
            clear k1
            by_cases k2 : kd = 2
            · have k2b : (kd == 2) = true := by rw [beq_iff_eq]; exact k2
              clear k2
              go_wp2_with fail
              refine (ListIn_walk ib ⟨l, false⟩ K M hM.2 _ (HI.out.alloc2 _ _) (by simp only at hrl ⊢; omega)).mono ?_
              rintro e w3 ⟨ao3, cap3, ss3, rfl, hss3, _, _, h3, ho3⟩
              have hl3 := listR_len ⟨l, false⟩ K M
              have hb3 := listR_stays ⟨l, false⟩ K M
              have hm3 := listR_most ⟨l, false⟩ K M hK.2
              have ht3 := congrArg List.length hss3
              have ht4 : ss3.length = (bytesOf ss3).length := by simp [bytesOf]
              have l4 : ¬ (max K 0 < (ss3.length : Int)) := by omega
              generalize (listR ⟨l, false⟩ K M).2 = r2 at h3 hl3 hb3
              clear hm3 ht3 hss3 ht4
              have hx3 : w3.heap[wr.heap.size]? = some (.cells #[.int .i64 kd, .int .i64 K, .int .i64 M, .int .u64 (bvi N)] 56 (0, 0)) := (ho3.block wr.heap.size (by simp <;> omega) (by have := HI.out.lt; omega)).trans ((RowAt.new wr _ _ _).alloc (.cells #[] 9)).out
              have x1 : w3.cell? ⟨wr.heap.size, 1, none⟩ = some (.int .i64 K) := RowAt.cell (i := 1) hx3 rfl
              have x2 : w3.cell? ⟨wr.heap.size, 2, none⟩ = some (.int .i64 M) := RowAt.cell (i := 2) hx3 rfl
              have x3 : w3.cell? ⟨wr.heap.size, 3, none⟩ = some (.int .u64 (bvi N)) := RowAt.cell (i := 3) hx3 rfl
              have z3 : w.heap.size ≤ (((wr.alloc (.cells #[.int .i64 kd, .int .i64 K, .int .i64 M, .int .u64 (bvi N)] 56)).alloc (.cells #[] 9))).heap.size := by have := HB.out.size; simp <;> omega
              have HB3 := Lib.hid (show Below w.heap.size w w3 from Below.trans (below_alloc2 HB.out _ _ HB.out.size) (ho3.below zW z3))
              have H3 := Lib.hid h3
              clear h3 ho3 hx3 z3
              obtain ⟨l2, bd2⟩ := r2
              cases bd2
              · have HZ := Lib.hid (show l2.length ≤ 4096 from Nat.le_trans hl3 hrl)
                clear hl3 hb3
                cases l2 with
                | nil =>
                  go_wp2_with fail
                  refine (Done_is ib _ 0 _ H3.out rfl).mono ?_
                  rintro e w4 ⟨rfl, rfl⟩
                  go_wp2_with fail
                  go_quiet ((first | (go_at_call 28; exact quiet_left (Done_is ib _ 0 _ H3.out rfl)) | (go_at_call 35; exact quiet_left (Left_is ib _ 0 _ H3.out rfl))))
                  go_wp2_with fail
                  go_roundw
                  case rel => exact ⟨k + 1, _, by omega, by go_num, rfl, (fun h => by cases h), HZ.out, H3.out, below_drewN HB3.out _⟩
                  case measure => simp [intOf]; omega
                | cons y l2 =>
                  have hy : ((((y :: l2).length : Nat) : Int) == 0) = false := by rw [beq_eq_false_iff_ne]; simp; omega
                  generalize hyl : (y :: l2).length = yl at hy
                  have HY := Lib.hid hyl
                  clear hyl
                  go_wp2_with fail
                  refine (Done_is ib _ 5 _ H3.out rfl).mono ?_
                  rintro e w4 ⟨rfl, rfl⟩
                  go_wp2_with fail
                  go_quiet ((first | (go_at_call 28; exact quiet_left (Done_is ib _ 5 _ H3.out rfl)) | (go_at_call 35; exact quiet_left (Left_is ib _ yl _ H3.out HY.out))))
                  go_wp2_with fail
                  go_roundw
                  case rel => exact ⟨k + 1, _, by omega, by go_num, rfl, (fun h => by cases h), HZ.out, H3.out, below_drewN HB3.out _⟩
                  case measure => simp [intOf]; omega
              · have HZ := Lib.hid (hb3 rfl)
                clear hl3 hb3
                go_wp2_with fail
                refine (Done_is ib _ 2 _ H3.out rfl).mono ?_
                rintro e w4 ⟨rfl, rfl⟩
                go_wp2_with fail
                go_quiet (fail)
                go_wp2_with fail
                go_roundw
                case rel => exact ⟨k + 1, _, by omega, by go_num, rfl, (fun _ => HZ.out), by rw [HZ.out]; decide, H3.out, below_drewN HB3.out _⟩
                case measure => simp [intOf]; omega
            have k2b : (kd == 2) = false := by rw [beq_eq_false_iff_ne]; exact k2
            clear k2
            have H3 := Lib.hid (show InAt ((wr.alloc (.cells #[.int .i64 kd, .int .i64 K, .int .i64 M, .int .u64 (bvi N)] 56)).alloc (.cells #[] 9)) ib ⟨l, false⟩ from HI.out.alloc2 _ _)
            have HB3 := Lib.hid (show Below w.heap.size w ((wr.alloc (.cells #[.int .i64 kd, .int .i64 K, .int .i64 M, .int .u64 (bvi N)] 56)).alloc (.cells #[] 9)) from below_alloc2 HB.out _ _ HB.out.size)
            have HZ := Lib.hid (show l.length ≤ 4096 from hrl)
            clear hrl
            cases l with
            | nil =>
              go_wp2_with fail
              refine (Done_is ib _ 0 _ H3.out rfl).mono ?_
              rintro e w4 ⟨rfl, rfl⟩
              go_wp2_with fail
              go_quiet ((first | (go_at_call 28; exact quiet_left (Done_is ib _ 0 _ H3.out rfl)) | (go_at_call 35; exact quiet_left (Left_is ib _ 0 _ H3.out rfl))))
              go_wp2_with fail
              go_roundw
              case rel => exact ⟨k + 1, _, by omega, by go_num, rfl, (fun h => by cases h), HZ.out, H3.out, below_drewN HB3.out _⟩
              case measure => simp [intOf]; omega
            | cons y l =>
              have hy : ((((y :: l).length : Nat) : Int) == 0) = false := by rw [beq_eq_false_iff_ne]; simp; omega
              generalize hyl : (y :: l).length = yl at hy
              have HY := Lib.hid hyl
              clear hyl
              go_wp2_with fail
              refine (Done_is ib _ 5 _ H3.out rfl).mono ?_
              rintro e w4 ⟨rfl, rfl⟩
              go_wp2_with fail
              go_quiet ((first | (go_at_call 28; exact quiet_left (Done_is ib _ 5 _ H3.out rfl)) | (go_at_call 35; exact quiet_left (Left_is ib _ yl _ H3.out HY.out))))
              go_wp2_with fail
              go_roundw
              case rel => exact ⟨k + 1, _, by omega, by go_num, rfl, (fun h => by cases h), HZ.out, H3.out, below_drewN HB3.out _⟩
              case measure => simp [intOf]; omega
          · have hbr : (Rd.mk l true) = Rd.broken := HBR.out rfl
            rw [hbr] at HI
            clear HBR hrl hbr

            have hI := HI.out
            have HI := Lib.hid hI
            clear hI
            have z0 : (bvi (0#64) != 0) = false := rfl
            have z1 : ¬ (bvi N < bvi (0#64)) := by have := bvi_nonneg N; show ¬ bvi N < 0; omega
            have z2 : (seq (ByteArray.mk #[]) (ByteArray.mk #[]) ) = true := rfl
            by_cases k0 : kd = 0
            · have k0b : (kd == 0) = true := by rw [beq_iff_eq]; exact k0
              clear k0
              go_wp2_with fail
              go_region_with (go_at_call 27; refine (NumIn_walk ib Rd.broken N _ ((HI.out.alloc2 _ _).drew) (by decide)).mono ?_; rintro e w3 ⟨rfl, h3, ho3⟩)
              rw [show numR Rd.broken N = (0#64, Rd.broken) from rfl] at h3 ⊢
              have hz3 : Rd.broken.l.length ≤ 4096 := by decide
              have hx3 : w3.heap[wr.heap.size]? = some (.cells #[.int .i64 kd, .int .i64 K, .int .i64 M, .int .u64 (bvi N)] 56 (0, 0)) := (ho3.block wr.heap.size (by simp <;> omega) (by have := HI.out.lt; omega)).trans ((RowAt.new wr _ _ _).alloc (.cells #[] 9)).out
              have x1 : w3.cell? ⟨wr.heap.size, 1, none⟩ = some (.int .i64 K) := RowAt.cell (i := 1) hx3 rfl
              have x2 : w3.cell? ⟨wr.heap.size, 2, none⟩ = some (.int .i64 M) := RowAt.cell (i := 2) hx3 rfl
              have x3 : w3.cell? ⟨wr.heap.size, 3, none⟩ = some (.int .u64 (bvi N)) := RowAt.cell (i := 3) hx3 rfl
              have z3 : w.heap.size ≤ ((((wr.alloc (.cells #[.int .i64 kd, .int .i64 K, .int .i64 M, .int .u64 (bvi N)] 56)).alloc (.cells #[] 9)).drew)).heap.size := by have := HB.out.size; simp <;> omega
              have HB3 := Lib.hid (show Below w.heap.size w w3 from Below.trans ((below_alloc2 HB.out _ _ HB.out.size).drew) (ho3.below zW z3))
              have H3 := Lib.hid h3
              clear h3 ho3 hx3 z3
              go_wp2_with fail
              refine (Left_is ib _ 0 _ H3.out rfl).mono ?_
              rintro e w4 ⟨rfl, rfl⟩
              go_wp2_with fail
              refine (Done_is ib _ 2 _ H3.out rfl).mono ?_
              rintro e w4 ⟨rfl, rfl⟩
              go_wp2_with fail
              refine (Done_is ib _ 2 _ H3.out rfl).mono ?_
              rintro e w4 ⟨rfl, rfl⟩
              go_wp2_with fail
              go_quiet (fail)
              go_wp2_with fail
              go_roundw
              case rel => exact ⟨k + 1, Rd.broken, by omega, by go_num, rfl, (fun _ => rfl), hz3, H3.out, below_drewN HB3.out _⟩
              case measure => simp [intOf]; omega
            have k0b : (kd == 0) = false := by rw [beq_eq_false_iff_ne]; exact k0
            clear k0
            by_cases k1 : kd = 1
            · have k1b : (kd == 1) = true := by rw [beq_iff_eq]; exact k1
              clear k1
              go_wp2_with fail
              go_region_with (go_at_call 30; refine (TextIn_walk ib Rd.broken M hM.2 _ ((HI.out.alloc2 _ _).drew) (by decide)).mono ?_; rintro e w3 ⟨tv, rfl, hs3, h3, ho3⟩)
              rw [show textR Rd.broken M = ([], Rd.broken) from textR_broken M] at h3 hs3
              have ht3 : tv.size = 0 := hs3.size
              have q3 : seq tv ⟨#[]⟩ = true := by rw [seq_eq hs3 (Is.self _)]; rfl
              have t3 : ¬ (max M 0 < (tv.size : Int)) := by omega
              have hz3 : Rd.broken.l.length ≤ 4096 := by decide
              have hx3 : w3.heap[wr.heap.size]? = some (.cells #[.int .i64 kd, .int .i64 K, .int .i64 M, .int .u64 (bvi N)] 56 (0, 0)) := (ho3.block wr.heap.size (by simp <;> omega) (by have := HI.out.lt; omega)).trans ((RowAt.new wr _ _ _).alloc (.cells #[] 9)).out
              have x1 : w3.cell? ⟨wr.heap.size, 1, none⟩ = some (.int .i64 K) := RowAt.cell (i := 1) hx3 rfl
              have x2 : w3.cell? ⟨wr.heap.size, 2, none⟩ = some (.int .i64 M) := RowAt.cell (i := 2) hx3 rfl
              have x3 : w3.cell? ⟨wr.heap.size, 3, none⟩ = some (.int .u64 (bvi N)) := RowAt.cell (i := 3) hx3 rfl
              have z3 : w.heap.size ≤ ((((wr.alloc (.cells #[.int .i64 kd, .int .i64 K, .int .i64 M, .int .u64 (bvi N)] 56)).alloc (.cells #[] 9)).drew)).heap.size := by have := HB.out.size; simp <;> omega
              have HB3 := Lib.hid (show Below w.heap.size w w3 from Below.trans ((below_alloc2 HB.out _ _ HB.out.size).drew) (ho3.below zW z3))
              have H3 := Lib.hid h3
              clear h3 ho3 hx3 z3
              go_wp2_with fail
              refine (Left_is ib _ 0 _ H3.out rfl).mono ?_
              rintro e w4 ⟨rfl, rfl⟩
              go_wp2_with fail
              refine (Done_is ib _ 2 _ H3.out rfl).mono ?_
              rintro e w4 ⟨rfl, rfl⟩
              go_wp2_with fail
              refine (Done_is ib _ 2 _ H3.out rfl).mono ?_
              rintro e w4 ⟨rfl, rfl⟩
              go_wp2_with fail
              go_quiet (fail)
              go_wp2_with fail
              go_roundw
              case rel => exact ⟨k + 1, Rd.broken, by omega, by go_num, rfl, (fun _ => rfl), hz3, H3.out, below_drewN HB3.out _⟩
              case measure => simp [intOf]; omega
            have k1b : (kd == 1) = false := by rw [beq_eq_false_iff_ne]; exact k1
            clear k1
            by_cases k2 : kd = 2
            · have k2b : (kd == 2) = true := by rw [beq_iff_eq]; exact k2
              clear k2
              go_wp2_with fail
              refine (ListIn_walk ib Rd.broken K M hM.2 _ (HI.out.alloc2 _ _) (by decide)).mono ?_
              rintro e w3 ⟨ao3, cap3, ss3, rfl, hss3, _, _, h3, ho3⟩
              rw [show listR Rd.broken K M = (some [], Rd.broken) from listR_broken K M] at h3 hss3
              have hl3 : ss3.length = 0 := by have := congrArg List.length hss3; simpa [bytesOf] using this
              have l3 : ¬ ((0 : Int) < (ss3.length : Int)) := by omega
              have l4 : ¬ (max K 0 < (ss3.length : Int)) := by omega
              have hz3 : Rd.broken.l.length ≤ 4096 := by decide
              have hx3 : w3.heap[wr.heap.size]? = some (.cells #[.int .i64 kd, .int .i64 K, .int .i64 M, .int .u64 (bvi N)] 56 (0, 0)) := (ho3.block wr.heap.size (by simp <;> omega) (by have := HI.out.lt; omega)).trans ((RowAt.new wr _ _ _).alloc (.cells #[] 9)).out
              have x1 : w3.cell? ⟨wr.heap.size, 1, none⟩ = some (.int .i64 K) := RowAt.cell (i := 1) hx3 rfl
              have x2 : w3.cell? ⟨wr.heap.size, 2, none⟩ = some (.int .i64 M) := RowAt.cell (i := 2) hx3 rfl
              have x3 : w3.cell? ⟨wr.heap.size, 3, none⟩ = some (.int .u64 (bvi N)) := RowAt.cell (i := 3) hx3 rfl
              have z3 : w.heap.size ≤ (((wr.alloc (.cells #[.int .i64 kd, .int .i64 K, .int .i64 M, .int .u64 (bvi N)] 56)).alloc (.cells #[] 9))).heap.size := by have := HB.out.size; simp <;> omega
              have HB3 := Lib.hid (show Below w.heap.size w w3 from Below.trans (below_alloc2 HB.out _ _ HB.out.size) (ho3.below zW z3))
              have H3 := Lib.hid h3
              clear h3 ho3 hx3 z3
              go_wp2_with fail
              refine (Left_is ib _ 0 _ H3.out rfl).mono ?_
              rintro e w4 ⟨rfl, rfl⟩
              go_wp2_with fail
              refine (Done_is ib _ 2 _ H3.out rfl).mono ?_
              rintro e w4 ⟨rfl, rfl⟩
              go_wp2_with fail
              refine (Done_is ib _ 2 _ H3.out rfl).mono ?_
              rintro e w4 ⟨rfl, rfl⟩
              go_wp2_with fail
              go_quiet (fail)
              go_wp2_with fail
              go_roundw
              case rel => exact ⟨k + 1, Rd.broken, by omega, by go_num, rfl, (fun _ => rfl), hz3, H3.out, below_drewN HB3.out _⟩
              case measure => simp [intOf]; omega
            have k2b : (kd == 2) = false := by rw [beq_eq_false_iff_ne]; exact k2
            clear k2
            have H3 := Lib.hid (show InAt ((wr.alloc (.cells #[.int .i64 kd, .int .i64 K, .int .i64 M, .int .u64 (bvi N)] 56)).alloc (.cells #[] 9)) ib Rd.broken from HI.out.alloc2 _ _)
            have HB3 := Lib.hid (show Below w.heap.size w ((wr.alloc (.cells #[.int .i64 kd, .int .i64 K, .int .i64 M, .int .u64 (bvi N)] 56)).alloc (.cells #[] 9)) from below_alloc2 HB.out _ _ HB.out.size)
            have hz3 : Rd.broken.l.length ≤ 4096 := by decide
            go_wp2_with fail
            refine (Left_is ib _ 0 _ H3.out rfl).mono ?_
            rintro e w4 ⟨rfl, rfl⟩
            go_wp2_with fail
            refine (Done_is ib _ 2 _ H3.out rfl).mono ?_
            rintro e w4 ⟨rfl, rfl⟩
            go_wp2_with fail
            refine (Done_is ib _ 2 _ H3.out rfl).mono ?_
            rintro e w4 ⟨rfl, rfl⟩
            go_wp2_with fail
            go_quiet (fail)
            go_wp2_with fail
            go_roundw
            case rel => exact ⟨k + 1, Rd.broken, by omega, by go_num, rfl, (fun _ => rfl), hz3, H3.out, below_drewN HB3.out _⟩
            case measure => simp [intOf]; omega
        · have hd1 : decide ((k : Int) < (aks.length : Int)) = true := decide_eq_true (by omega)
          have hd2 : decide ((k : Int) < 100) = false := decide_eq_false (by omega)
          go_wp2_with fail
          go_ret
          exact ⟨rfl, HB.out⟩
      · have hd1 : decide ((k : Int) < (aks.length : Int)) = false := decide_eq_false (by omega)
        go_wp2_with fail
        go_ret
        exact ⟨rfl, HB.out⟩
end Go.Proofs.Ytfdncifnokkclaa
