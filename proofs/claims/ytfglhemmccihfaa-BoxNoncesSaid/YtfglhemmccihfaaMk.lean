/-
The program's sha: First, Pad.
The program's sha: table, schedule.
-/
import Derived.Test.YtfglhemmccihfaaMa
import Derived.Test.YtfglhemmccihfaaMb
import Derived.Test.YtfglhemmccihfaaMd
import Derived.Test.YtfglhemmccihfaaMf
namespace Go.Proofs.Ytfglhemmccihfaa
open Go.RowKit

set_option maxHeartbeats 1000000 in
theorem First_walk (w : World) : Calls Try.prog 127 #[] w fun e w' => e = .returned (.agg (words firstS).toArray) ∧ Below w.heap.size w w' := by
  go_enter Try.func127, Try.ntmps127
  go_wp2_with fail
  exact bodyPost_ret (v := .agg (words firstS).toArray) (results_cell_row rfl _ _ w.heap.size 152 (words firstS).toArray (0, 0) _ (by kernel_rfl) (heap_alloc_last w _) Try.underlying152 rfl (by kernel_rfl)) rfl ⟨rfl, (Below.refl _ _).alloc (Nat.le_refl _) _⟩

theorem zerosS_lt (n : BitVec 64) : zerosS n < 64 := Nat.mod_lt _ (by decide)
theorem zerosS_is (n : BitVec 64) : wrap64 (bvi ((119#64 - n % 64#64) % 64#64)) = ((zerosS n : Nat) : Int) := by
  have h0 : (n % 64#64).toNat = n.toNat % 64 := by rw [BitVec.toNat_umod]; rfl
  have h1 : (119#64 - n % 64#64).toNat = 119 - n.toNat % 64 := by
    rw [BitVec.toNat_sub, h0]
    show (18446744073709551616 - n.toNat % 64 + 119) % 18446744073709551616 = _
    omega
  have h2 : ((119#64 - n % 64#64) % 64#64).toNat = zerosS n := by rw [BitVec.toNat_umod, h1]; rfl
  have h3 := zerosS_lt n
  show wrap64 ((((119#64 - n % 64#64) % 64#64).toNat : Nat) : Int) = _
  rw [h2]
  exact IntWalk.wrap64_in _ (by omega)

set_option maxHeartbeats 1000000 in
theorem Pad_walk (n : BitVec 64) (w : World) : Calls Try.prog 129 #[.int .u64 (bvi n)] w fun e w' => ∃ r, e = .returned (.string r) ∧ Is r (padL n) ∧ Below w.heap.size w w' := by
  have HZ := Lib.hid (zerosS_is n)
  have hz := zerosS_lt n
  go_enter Try.func129, Try.ntmps129
  go_wp2_with fail
  rw [HZ.out]
  refine (Repeat_walk _ (zerosS n) _ (by omega) (by show 1 * zerosS n ≤ _; omega)).mono ?_
  rintro e w1 ⟨rfl, hb⟩
  have hr := Is.of (Lib.repeatL (ByteArray.mk #[0]).data.toList (zerosS n))
  generalize ByteArray.mk (Lib.repeatL (ByteArray.mk #[0]).data.toList (zerosS n)).toArray = r at hr ⊢
  rw [show (ByteArray.mk #[0]).data.toList = [0] from rfl, repeatL_one] at hr
  have hrs : r.size ≤ 64 := by rw [hr.size, List.length_replicate]; omega
  have HR := Lib.hid hr
  have HB := Lib.hid hb
  clear hr hb
  go_wp2_with fail
  refine (High_walk _ 8 _).mono ?_
  rintro e w2 ⟨q, rfl, hq, hb2⟩
  have hqs : q.size ≤ 8 := by rw [hq.size, highL_length]; decide
  have HQ := Lib.hid hq
  have HB2 := Lib.hid (bthen HB.out hb2)
  clear hq hb2
  go_wp2_with fail
  go_ret
  refine ⟨_, rfl, ?_, HB2.out⟩
  have e1 : padL n = [128] ++ List.replicate (zerosS n) 0 ++ highL (8#64 * n) (cut 8) := by rw [BitVec.mul_comm]; rfl
  rw [e1]
  exact (Is.append (show Is ⟨#[128]⟩ [128] from rfl) HR.out).append HQ.out
end Go.Proofs.Ytfglhemmccihfaa
namespace Go.Proofs.Ytfglhemmccihfaa
open Go.RowKit

def tableA : Array Value := (words tableS).toArray
set_option maxRecDepth 100000 in
set_option maxHeartbeats 1000000 in
theorem table_walk (w : World) : Calls Try.prog 132 #[] w fun e w' => e = .returned (.agg tableA) ∧ Below w.heap.size w w' := by
  go_enter Try.func132, Try.ntmps132
  go_upto_region 1 with fail
  rename_i hK
  apply wp_region_lit
  refine wpList_buildTo rfl 160 _ rfl (some 1) rfl tableA (by as_aux_lemma => kernel_rfl) ?_
  refine wpList_store_rowTo rfl 160 _ _ rfl rfl w.heap.size tableA (by as_aux_lemma => kernel_rfl) (by as_aux_lemma => kernel_rfl) 160 _ (heap_alloc_last w _) (by as_aux_lemma => kernel_rfl) (by as_aux_lemma => kernel_rfl) (by as_aux_lemma => kernel_rfl) ?_
  rw [World.setRow_alloc_new]
  apply wpList_nil
  refine hK _ _ ?_
  go_wp2_with fail
  exact bodyPost_ret (v := .agg tableA) (results_cell_row rfl _ _ w.heap.size 160 tableA (0, 0) _ (by kernel_rfl) (heap_alloc_last w _) Try.underlying160 rfl (by kernel_rfl)) rfl ⟨rfl, (Below.refl _ _).alloc (Nat.le_refl _) _⟩

/-- The numbers so far, and zeros behind. -/
def partW (block : List UInt8) (k : Nat) : List (BitVec 32) := schedK block k ++ List.replicate (64 - k) 0
theorem partW_length (block : List UInt8) (k : Nat) (h : k ≤ 64) : (partW block k).length = 64 := by
  rw [partW, List.length_append, schedK_length, List.length_replicate]; omega
theorem partW_full (block : List UInt8) : partW block 64 = schedL block := by rw [partW]; simp [schedL]
theorem partW_get (block : List UInt8) (k i : Nat) (h : i < k) : (partW block k).getD i 0 = (schedK block k).getD i 0 := by
  rw [partW, List.getD_eq_getElem?_getD, List.getElem?_append_left (by rw [schedK_length]; exact h), List.getD_eq_getElem?_getD]
theorem partW_set (block : List UInt8) (k : Nat) (h : k < 64) : (partW block k).set k (if k < 16 then numHi block k else nextW (schedK block k) k) = partW block (k + 1) := by
  rw [partW, partW, List.set_append_right (h := by rw [schedK_length]; exact Nat.le_refl _), schedK_length, Nat.sub_self, schedK, List.append_assoc]
  congr 1
  rw [show 64 - k = (64 - (k + 1)) + 1 by omega, List.replicate_succ]
  rfl
theorem wordsS_set (l : List (BitVec 32)) (i : Nat) (x : BitVec 32) : (words l).toArray.setIfInBounds i (.int .u32 (bvi x)) = (words (l.set i x)).toArray := by
  rw [List.setIfInBounds_toArray]
  simp [words, List.map_set, u32c]
theorem wordsS_at (l : List (BitVec 32)) (i : Nat) (h : i < l.length) : (words l).toArray[i]? = some (.int .u32 (bvi (l.getD i 0))) := by
  simp [words, u32c, List.getD_eq_getElem?_getD, h]
theorem words_size (l : List (BitVec 32)) : (words l).toArray.size = l.length := by simp [words]
theorem w64_info (l : List (BitVec 32)) (h : l.length = 64) : (Try.prog.info? 160).map (·.size) = some (words l).toArray.size := by
  rw [words_size, h]; kernel_rfl
theorem wordsS_cells (l : List (BitVec 32)) : (words l).toArray.all (·.oneCell') = true := by
  rw [Array.all_eq_true_iff_forall_mem]
  intro x hx
  simp only [List.mem_toArray, words, List.mem_map] at hx
  obtain ⟨a, _, rfl⟩ := hx
  rfl
def zero64 : List (BitVec 32) := List.replicate 64 0
theorem partW_zero (block : List UInt8) : partW block 0 = zero64 := rfl
set_option maxRecDepth 100000 in
set_option maxHeartbeats 2000000 in
theorem schedule_walk (s : ByteArray) (hs : s.size = 64) (w : World) : Calls Try.prog 131 #[.string s] w fun e w' => e = .returned (.agg (words (schedL s.data.toList)).toArray) ∧ Below w.heap.size w w' := by
  have hs1 : s.size ≤ 64 := by omega
  have hs2 : 64 ≤ s.size := by omega
  have HS := Lib.hid hs
  clear hs
  go_enter Try.func131, Try.ntmps131
  go_upto_region 2 with fail
  have hr0 := (RowAt.new w (words zero64).toArray 160 (0, 0)).alloc (.cells (words zero64).toArray 160)
  have hn0 := RowAt.new (w.alloc (.cells (words zero64).toArray 160)) (words zero64).toArray 160 (0, 0)
  rw [show (w.alloc (.cells (words zero64).toArray 160)).heap.size = w.heap.size + 1 by simp] at hn0
  have hb0 : Below w.heap.size w ((w.alloc (.cells (words zero64).toArray 160)).alloc (.cells (words zero64).toArray 160)) := ((Below.refl _ _).alloc (Nat.le_refl _) _).alloc (by simp) _
  change Code.wp _ _ _ _ ((w.alloc (.cells (words zero64).toArray 160)).alloc (.cells (words zero64).toArray 160))
  generalize (w.alloc (.cells (words zero64).toArray 160)).alloc (.cells (words zero64).toArray 160) = w1 at hn0 hr0 hb0 ⊢
  have HN := Lib.hid hn0
  have HR := Lib.hid hr0
  have HB := Lib.hid hb0
  clear hn0 hr0 hb0
  go_wp2_with fail
  go_loopw [12] (fun i wr => ∃ k : Nat, k ≤ 16 ∧ i = .int .i64 k ∧ RowAt wr (w.heap.size + 1) (words (partW s.data.toList k)).toArray 160 (0, 0) ∧ RowAt wr w.heap.size (words zero64).toArray 160 (0, 0) ∧ Below w.heap.size w wr) (fun i _ => 16 - (intOf i).toNat)
  case atStart => exact ⟨0, Nat.zero_le _, rfl, HN.out, HR.out, HB.out⟩
  case round =>
    obtain ⟨k, hk, rfl, hrow, hrz, hbel⟩ := hrel
    have HN1 := Lib.hid hrow
    have HR1 := Lib.hid hrz
    have HB1 := Lib.hid hbel
    clear hrow hrz hbel
    rcases Nat.lt_or_ge k 16 with hlt | hge
    · have hset := partW_set s.data.toList k (by omega)
      rw [if_pos hlt] at hset
      have HST := Lib.hid hset
      have HLP := Lib.hid (partW_length s.data.toList k (by omega))
      have f3 := HN1.out.free (i := k) (by simp)
      obtain ⟨v3, c3⟩ : ∃ v3, wr.cell? ⟨w.heap.size + 1, k, none⟩ = some v3 := ⟨_, HN1.out.cell (i := k) (wordsS_at _ k (by rw [HLP.out]; omega))⟩
      have q0 : (k : Int) < 64 := by omega
      have hx := (Is.self s).extract (4 * k) (4 * (k + 1))
      rw [show 4 * (k + 1) - 4 * k = 4 by omega] at hx
      have hxs : (s.extract (4 * k) (4 * (k + 1))).size ≤ 8 := by rw [ByteArray.size_extract]; omega
      have HX := Lib.hid hx
      clear hset hx
      --TAIL
      go_wp2_with fail
      refine (FromHigh_ok _ hxs _).mono ?_
      rintro e w2 ⟨rfl, rfl⟩
      rw [HX.out.out]
      go_wp2_with fail
      go_roundw
      case rel => exact ⟨k + 1, by omega, by go_num, by rw [← HST.out, ← wordsS_set]; exact HN1.out.store k _, HR1.out.other (by show w.heap.size + 1 ≠ w.heap.size; omega) _, HB1.out.setCell (by show w.heap.size ≤ w.heap.size + 1; omega) _⟩
      case measure => simp [intOf]; omega
    · have hk16 : k = 16 := by omega
      have hrow := HN1.out
      rw [hk16] at hrow
      have HN16 := Lib.hid hrow
      clear hk16 hrow
      go_wp2_with fail
      go_loopw [7] (fun i wr => ∃ k : Nat, 16 ≤ k ∧ k ≤ 64 ∧ i = .int .i64 k ∧ RowAt wr (w.heap.size + 1) (words (partW s.data.toList k)).toArray 160 (0, 0) ∧ RowAt wr w.heap.size (words zero64).toArray 160 (0, 0) ∧ Below w.heap.size w wr) (fun i _ => 64 - (intOf i).toNat)
      case atStart => exact ⟨16, Nat.le_refl _, by decide, rfl, HN16.out, HR1.out, HB1.out⟩
      case round =>
        obtain ⟨k, hk0, hk, rfl, hrow, hrz, hbel⟩ := hrel
        have HN2 := Lib.hid hrow
        have HR2 := Lib.hid hrz
        have HB2 := Lib.hid hbel
        clear hrow hrz hbel
        rcases Nat.lt_or_ge k 64 with hlt | hge
        · have HLP := Lib.hid (partW_length s.data.toList k hk)
          obtain ⟨i1, i2, i3, i4, he⟩ : ∃ i1 i2 i3 i4 : Nat, k = i1 + 15 ∧ k = i2 + 2 ∧ k = i3 + 16 ∧ k = i4 + 7 := ⟨k - 15, k - 2, k - 16, k - 7, by omega, by omega, by omega, by omega⟩
          have hset := partW_set s.data.toList k hlt
          rw [if_neg (by omega), nextW, ← partW_get _ _ _ (by omega : k - 16 < k), ← partW_get _ _ _ (by omega : k - 15 < k), ← partW_get _ _ _ (by omega : k - 7 < k), ← partW_get _ _ _ (by omega : k - 2 < k)] at hset
          rw [show k - 16 = i3 by omega, show k - 15 = i1 by omega, show k - 7 = i4 by omega, show k - 2 = i2 by omega] at hset
          have HST := Lib.hid hset
          have f3 := HN2.out.free (i := k) (by simp)
          obtain ⟨v3, c0⟩ : ∃ v3, wr.cell? ⟨w.heap.size + 1, k, none⟩ = some v3 := ⟨_, HN2.out.cell (i := k) (wordsS_at _ k (by rw [HLP.out]; omega))⟩
          have c1 := HN2.out.cell (i := i1) (wordsS_at _ i1 (by rw [HLP.out]; omega))
          have c2 := HN2.out.cell (i := i2) (wordsS_at _ i2 (by rw [HLP.out]; omega))
          have c3 := HN2.out.cell (i := i3) (wordsS_at _ i3 (by rw [HLP.out]; omega))
          have c4 := HN2.out.cell (i := i4) (wordsS_at _ i4 (by rw [HLP.out]; omega))
          generalize (partW s.data.toList k).getD i1 0 = x1 at c1 HST
          generalize (partW s.data.toList k).getD i2 0 = x2 at c2 HST
          generalize (partW s.data.toList k).getD i3 0 = x3 at c3 HST
          generalize (partW s.data.toList k).getD i4 0 = x4 at c4 HST
          have b1 : i1 < 64 := by omega
          have b2 : i2 < 64 := by omega
          have b3 : i3 < 64 := by omega
          have b4 : i4 < 64 := by omega
          have d1 : (i1 : Int) < 64 := by omega
          have d2 : (i2 : Int) < 64 := by omega
          have d3 : (i3 : Int) < 64 := by omega
          have d4 : (i4 : Int) < 64 := by omega
          have d5 : (k : Int) < 64 := by omega
          have HE := Lib.hid he
          clear he hset
          go_wp2_with fail
          refine region_table (by kernel_rfl) [35, 36, 37, 38, 39, 40, 41, 42, 8, 9]
            (fun i x_ => match i with
              | 0 => x_ = .int .i64 ((k : Int))
              | 1 => x_ = .int .i64 ((i1 : Int))
              | 2 => x_ = .pointer (some ⟨w.heap.size + 1, i1, none⟩)
              | 3 => x_ = .int .u32 (bvi (x1))
              | 4 => x_ = .int .i64 ((k : Int))
              | 5 => x_ = .int .i64 ((i2 : Int))
              | 6 => x_ = .pointer (some ⟨w.heap.size + 1, i2, none⟩)
              | 7 => x_ = .int .u32 (bvi (x2))
              | 8 => x_ = .int .u32 (bvi (x1))
              | 9 => x_ = .int .u32 (bvi (x2))
              | _ => True) (fun _ _ w' => w' = wr.drew) (by kernel_rfl) (by kernel_rfl) rfl (by kernel_rfl) (rfl) ?_ ?_
          · refine StepsOk.cons ?_ (StepsOk.cons ?_ (StepsOk.cons ?_ (StepsOk.cons ?_ (StepsOk.cons ?_ (StepsOk.cons ?_ (StepsOk.cons ?_ (StepsOk.cons ?_ (StepsOk.cons ?_ (StepsOk.cons ?_ StepsOk.nil)))))))))
            · intro L a w4 Kx hl hsz hs ht hr he hK
              refine step_plain rfl ?_
              have h7 : a.tmps.getD 7 undef = .int .i64 ((k : Int)) := (hs 7 (by decide)).trans rfl
              go_simp
              exact hK _ _ rfl rfl
            · intro L a w4 Kx hl hsz hs ht hr he hK
              refine step_plain rfl ?_
              have h35 : a.tmps.getD 35 undef = .int .i64 ((k : Int)) := ht 0 (he 0 (by kernel_rfl)) 35 rfl
              have hE := HE.out
              have hwr : IntKind.i64.wrap ((k : Int) - 15) = (i1 : Int) := (IntWalk.i64_in _ (by omega)).trans (by omega)
              clear hE
              go_simp
              exact hK _ _ rfl rfl
            · intro L a w4 Kx hl hsz hs ht hr he hK
              refine step_plain rfl ?_
              have h36 : a.tmps.getD 36 undef = .int .i64 ((i1 : Int)) := ht 1 (he 1 (by kernel_rfl)) 36 rfl
              have h3 : a.tmps.getD 3 undef = .pointer (some ⟨w.heap.size + 1, 0, none⟩) := (hs 3 (by decide)).trans rfl
              go_simp
              exact hK _ _ rfl rfl
            · intro L a w4 Kx hl hsz hs ht hr he hK
              refine step_plain rfl ?_
              have h37 : a.tmps.getD 37 undef = .pointer (some ⟨w.heap.size + 1, i1, none⟩) := ht 2 (he 2 (by kernel_rfl)) 37 rfl
              subst hr
              go_simp
              exact hK _ _ rfl rfl
            · intro L a w4 Kx hl hsz hs ht hr he hK
              refine step_plain rfl ?_
              have h7 : a.tmps.getD 7 undef = .int .i64 ((k : Int)) := (hs 7 (by decide)).trans rfl
              go_simp
              exact hK _ _ rfl rfl
            · intro L a w4 Kx hl hsz hs ht hr he hK
              refine step_plain rfl ?_
              have h39 : a.tmps.getD 39 undef = .int .i64 ((k : Int)) := ht 4 (he 4 (by kernel_rfl)) 39 rfl
              have hE := HE.out
              have hwr : IntKind.i64.wrap ((k : Int) - 2) = (i2 : Int) := (IntWalk.i64_in _ (by omega)).trans (by omega)
              clear hE
              go_simp
              exact hK _ _ rfl rfl
            · intro L a w4 Kx hl hsz hs ht hr he hK
              refine step_plain rfl ?_
              have h40 : a.tmps.getD 40 undef = .int .i64 ((i2 : Int)) := ht 5 (he 5 (by kernel_rfl)) 40 rfl
              have h3 : a.tmps.getD 3 undef = .pointer (some ⟨w.heap.size + 1, 0, none⟩) := (hs 3 (by decide)).trans rfl
              go_simp
              exact hK _ _ rfl rfl
            · intro L a w4 Kx hl hsz hs ht hr he hK
              refine step_plain rfl ?_
              have h41 : a.tmps.getD 41 undef = .pointer (some ⟨w.heap.size + 1, i2, none⟩) := ht 6 (he 6 (by kernel_rfl)) 41 rfl
              subst hr
              go_simp
              exact hK _ _ rfl rfl
            · intro L a w4 Kx hl hsz hs ht hr he hK
              refine step_plain rfl ?_
              have h38 : a.tmps.getD 38 undef = .int .u32 (bvi (x1)) := ht 3 (he 3 (by kernel_rfl)) 38 rfl
              go_simp
              exact hK _ _ rfl rfl
            · intro L a w4 Kx hl hsz hs ht hr he hK
              refine step_plain rfl ?_
              have h42 : a.tmps.getD 42 undef = .int .u32 (bvi (x2)) := ht 7 (he 7 (by kernel_rfl)) 42 rfl
              go_simp
              exact hK _ _ rfl rfl
          · intro f L w4 hf hall hr
            have h8 : f 8 = .int .u32 (bvi (x1)) := hf 8 (by decide) 8 rfl
            have h9 : f 9 = .int .u32 (bvi (x2)) := hf 9 (by decide) 9 rfl
            subst hr
            simp only [List.foldl, Act.put, List.setIfInBounds_toArray, List.set_cons_zero, List.set_cons_succ]
            rw [h8, h9]
            clear hf h8 h9
            generalize f 35 = z35
            generalize f 36 = z36
            generalize f 37 = z37
            generalize f 38 = z38
            generalize f 39 = z39
            generalize f 40 = z40
            generalize f 41 = z41
            generalize f 42 = z42
            go_wp2_with fail
            refine (Right_walk x1 7 _).mono ?_
            rintro e wq1 ⟨rfl, rfl⟩
            go_wp2_with fail
            refine (Right_walk x1 18 _).mono ?_
            rintro e wq2 ⟨rfl, rfl⟩
            go_wp2_with fail
            refine (Right_walk x2 17 _).mono ?_
            rintro e wq3 ⟨rfl, rfl⟩
            go_wp2_with fail
            refine (Right_walk x2 19 _).mono ?_
            rintro e wq4 ⟨rfl, rfl⟩
            go_wp2_with fail
            refine region_table (by kernel_rfl) [59, 60, 61, 62, 63, 64, 65, 66, 67, 68, 69, 70, 71, 72, 73]
              (fun i x_ => match i with
                | 0 => x_ = .int .i64 ((k : Int))
                | 1 => x_ = .int .i64 ((k : Int))
                | 2 => x_ = .int .i64 ((i3 : Int))
                | 3 => x_ = .pointer (some ⟨w.heap.size + 1, i3, none⟩)
                | 4 => x_ = .int .u32 (bvi (x3))
                | 5 => x_ = .int .u32 (bvi (sig0 x1))
                | 6 => x_ = .int .u32 (bvi (x3 + sig0 x1))
                | 7 => x_ = .int .i64 ((k : Int))
                | 8 => x_ = .int .i64 ((i4 : Int))
                | 9 => x_ = .pointer (some ⟨w.heap.size + 1, i4, none⟩)
                | 10 => x_ = .int .u32 (bvi (x4))
                | 11 => x_ = .int .u32 (bvi (x3 + sig0 x1 + x4))
                | 12 => x_ = .int .u32 (bvi (sig1 x2))
                | 13 => x_ = .int .u32 (bvi (x3 + sig0 x1 + x4 + sig1 x2))
                | 14 => x_ = .pointer (some ⟨w.heap.size + 1, k, none⟩)
                | _ => True) (fun L _ w' => (L 15 = false → w' = wr.drew.drew) ∧ (L 15 = true → w' = wr.drew.drew.setCell ⟨w.heap.size + 1, k, none⟩ (.int .u32 (bvi (x3 + sig0 x1 + x4 + sig1 x2)))) ∧ (L 15 = true → L 4 = true ∧ L 10 = true)) (by kernel_rfl) (by kernel_rfl) rfl (by kernel_rfl) (⟨fun _ => rfl, (fun h => by cases h), (fun h => by cases h)⟩) ?_ ?_
            · refine StepsOk.cons ?_ (StepsOk.cons ?_ (StepsOk.cons ?_ (StepsOk.cons ?_ (StepsOk.cons ?_ (StepsOk.cons ?_ (StepsOk.cons ?_ (StepsOk.cons ?_ (StepsOk.cons ?_ (StepsOk.cons ?_ (StepsOk.cons ?_ (StepsOk.cons ?_ (StepsOk.cons ?_ (StepsOk.cons ?_ (StepsOk.cons ?_ (StepsOk.cons ?_ StepsOk.nil)))))))))))))))
              · intro L a w4 Kx hl hsz hs ht hr he hK
                refine step_plain rfl ?_
                have h7 : a.tmps.getD 7 undef = .int .i64 ((k : Int)) := (hs 7 (by decide)).trans rfl
                go_simp
                exact hK _ _ rfl (by simpa using hr)
              · intro L a w4 Kx hl hsz hs ht hr he hK
                refine step_plain rfl ?_
                have h7 : a.tmps.getD 7 undef = .int .i64 ((k : Int)) := (hs 7 (by decide)).trans rfl
                go_simp
                exact hK _ _ rfl (by simpa using hr)
              · intro L a w4 Kx hl hsz hs ht hr he hK
                refine step_plain rfl ?_
                have h60 : a.tmps.getD 60 undef = .int .i64 ((k : Int)) := ht 1 (he 1 (by kernel_rfl)) 60 rfl
                have hE := HE.out
                have hwr : IntKind.i64.wrap ((k : Int) - 16) = (i3 : Int) := (IntWalk.i64_in _ (by omega)).trans (by omega)
                clear hE
                go_simp
                exact hK _ _ rfl (by simpa using hr)
              · intro L a w4 Kx hl hsz hs ht hr he hK
                refine step_plain rfl ?_
                have h61 : a.tmps.getD 61 undef = .int .i64 ((i3 : Int)) := ht 2 (he 2 (by kernel_rfl)) 61 rfl
                have h3 : a.tmps.getD 3 undef = .pointer (some ⟨w.heap.size + 1, 0, none⟩) := (hs 3 (by decide)).trans rfl
                go_simp
                exact hK _ _ rfl (by simpa using hr)
              · intro L a w4 Kx hl hsz hs ht hr he hK
                refine step_plain rfl ?_
                have h62 : a.tmps.getD 62 undef = .pointer (some ⟨w.heap.size + 1, i3, none⟩) := ht 3 (he 3 (by kernel_rfl)) 62 rfl
                have hx17 : L 15 = false := by
                  cases hy : L 15 with
                  | false => rfl
                  | true => have := (hr.2.2 hy).1; rw [hl] at this; cases this
                have hw4 := hr.1 hx17
                subst hw4
                go_simp
                refine hK _ _ rfl ⟨fun _ => rfl, fun h => ?_, fun h => ?_⟩
                all_goals
                  have h' : (L 15 || false) = true := h
                  rw [hx17] at h'
                  cases h'
              · intro L a w4 Kx hl hsz hs ht hr he hK
                refine step_plain rfl ?_
                have h10 : a.tmps.getD 10 undef = .int .u32 (bvi (sig0 x1)) := (hs 10 (by decide)).trans rfl
                go_simp
                exact hK _ _ rfl (by simpa using hr)
              · intro L a w4 Kx hl hsz hs ht hr he hK
                refine step_plain rfl ?_
                have h63 : a.tmps.getD 63 undef = .int .u32 (bvi (x3)) := ht 4 (he 4 (by kernel_rfl)) 63 rfl
                have h64 : a.tmps.getD 64 undef = .int .u32 (bvi (sig0 x1)) := ht 5 (he 5 (by kernel_rfl)) 64 rfl
                go_simp
                exact hK _ _ rfl (by simpa using hr)
              · intro L a w4 Kx hl hsz hs ht hr he hK
                refine step_plain rfl ?_
                have h7 : a.tmps.getD 7 undef = .int .i64 ((k : Int)) := (hs 7 (by decide)).trans rfl
                go_simp
                exact hK _ _ rfl (by simpa using hr)
              · intro L a w4 Kx hl hsz hs ht hr he hK
                refine step_plain rfl ?_
                have h66 : a.tmps.getD 66 undef = .int .i64 ((k : Int)) := ht 7 (he 7 (by kernel_rfl)) 66 rfl
                have hE := HE.out
                have hwr : IntKind.i64.wrap ((k : Int) - 7) = (i4 : Int) := (IntWalk.i64_in _ (by omega)).trans (by omega)
                clear hE
                go_simp
                exact hK _ _ rfl (by simpa using hr)
              · intro L a w4 Kx hl hsz hs ht hr he hK
                refine step_plain rfl ?_
                have h67 : a.tmps.getD 67 undef = .int .i64 ((i4 : Int)) := ht 8 (he 8 (by kernel_rfl)) 67 rfl
                have h3 : a.tmps.getD 3 undef = .pointer (some ⟨w.heap.size + 1, 0, none⟩) := (hs 3 (by decide)).trans rfl
                go_simp
                exact hK _ _ rfl (by simpa using hr)
              · intro L a w4 Kx hl hsz hs ht hr he hK
                refine step_plain rfl ?_
                have h68 : a.tmps.getD 68 undef = .pointer (some ⟨w.heap.size + 1, i4, none⟩) := ht 9 (he 9 (by kernel_rfl)) 68 rfl
                have hx17 : L 15 = false := by
                  cases hy : L 15 with
                  | false => rfl
                  | true => have := (hr.2.2 hy).2; rw [hl] at this; cases this
                have hw4 := hr.1 hx17
                subst hw4
                go_simp
                refine hK _ _ rfl ⟨fun _ => rfl, fun h => ?_, fun h => ?_⟩
                all_goals
                  have h' : (L 15 || false) = true := h
                  rw [hx17] at h'
                  cases h'
              · intro L a w4 Kx hl hsz hs ht hr he hK
                refine step_plain rfl ?_
                have h65 : a.tmps.getD 65 undef = .int .u32 (bvi (x3 + sig0 x1)) := ht 6 (he 6 (by kernel_rfl)) 65 rfl
                have h69 : a.tmps.getD 69 undef = .int .u32 (bvi (x4)) := ht 10 (he 10 (by kernel_rfl)) 69 rfl
                go_simp
                exact hK _ _ rfl (by simpa using hr)
              · intro L a w4 Kx hl hsz hs ht hr he hK
                refine step_plain rfl ?_
                have h11 : a.tmps.getD 11 undef = .int .u32 (bvi (sig1 x2)) := (hs 11 (by decide)).trans rfl
                go_simp
                exact hK _ _ rfl (by simpa using hr)
              · intro L a w4 Kx hl hsz hs ht hr he hK
                refine step_plain rfl ?_
                have h70 : a.tmps.getD 70 undef = .int .u32 (bvi (x3 + sig0 x1 + x4)) := ht 11 (he 11 (by kernel_rfl)) 70 rfl
                have h71 : a.tmps.getD 71 undef = .int .u32 (bvi (sig1 x2)) := ht 12 (he 12 (by kernel_rfl)) 71 rfl
                go_simp
                exact hK _ _ rfl (by simpa using hr)
              · intro L a w4 Kx hl hsz hs ht hr he hK
                refine step_plain rfl ?_
                have h59 : a.tmps.getD 59 undef = .int .i64 ((k : Int)) := ht 0 (he 0 (by kernel_rfl)) 59 rfl
                have h3 : a.tmps.getD 3 undef = .pointer (some ⟨w.heap.size + 1, 0, none⟩) := (hs 3 (by decide)).trans rfl
                go_simp
                exact hK _ _ rfl (by simpa using hr)
              · intro L a w4 Kx hl hsz hs ht hr he hK
                refine step_plain rfl ?_
                have h73 : a.tmps.getD 73 undef = .pointer (some ⟨w.heap.size + 1, k, none⟩) := ht 14 (he 14 (by kernel_rfl)) 73 rfl
                have h72 : a.tmps.getD 72 undef = .int .u32 (bvi (x3 + sig0 x1 + x4 + sig1 x2)) := ht 13 (he 13 (by kernel_rfl)) 72 rfl
                have hw4 := hr.1 hl
                subst hw4
                go_simp
                refine hK undef _ trivial ⟨fun h => ?_, fun _ => rfl, fun _ => ?_⟩
                · have h' : (L 15 || true) = false := h
                  rw [Bool.or_true] at h'
                  cases h'
                · exact ⟨by show (L 4 || false) = true; rw [he 4 (by kernel_rfl)]; rfl, by show (L 10 || false) = true; rw [he 10 (by kernel_rfl)]; rfl⟩
            · intro f L w4 hf hall hr
              have hw4 := hr.2.1 (hall 15 (by decide))
              subst hw4
              clear hf hall hr
              simp only [List.foldl, Act.put, List.setIfInBounds_toArray, List.set_cons_zero, List.set_cons_succ]
              generalize f 59 = z59
              generalize f 60 = z60
              generalize f 61 = z61
              generalize f 62 = z62
              generalize f 63 = z63
              generalize f 64 = z64
              generalize f 65 = z65
              generalize f 66 = z66
              generalize f 67 = z67
              generalize f 68 = z68
              generalize f 69 = z69
              generalize f 70 = z70
              generalize f 71 = z71
              generalize f 72 = z72
              generalize f 73 = z73
              go_wp2_with fail
              go_roundw
              case rel => exact ⟨k + 1, by omega, by omega, by go_num, by rw [← HST.out, ← wordsS_set]; exact HN2.out.drew.drew.store k _, HR2.out.drew.drew.other (by show w.heap.size + 1 ≠ w.heap.size; omega) _, HB2.out.drew.drew.setCell (by show w.heap.size ≤ w.heap.size + 1; omega) _⟩
              case measure => simp [intOf]; omega
        · obtain rfl : k = 64 := by omega
          have HLP := Lib.hid (partW_length s.data.toList 64 (Nat.le_refl _))
          go_upto_region 15 with fail
          rename_i hK
          apply wp_region_lit
          refine wpList_load_row rfl 160 _ rfl (w.heap.size + 1) (by as_aux_lemma => kernel_rfl) 160 _ (0, 0) _ HN2.out.out Try.underlying160 rfl (w64_info _ HLP.out) ?_
          refine wpList_store_rowTo rfl 160 _ _ rfl rfl w.heap.size (words (partW s.data.toList 64)).toArray (by as_aux_lemma => kernel_rfl) (by as_aux_lemma => kernel_rfl) 160 _ HR2.out.out (w64_info _ HLP.out) (by rw [words_size, words_size, HLP.out]; rfl) (wordsS_cells _) ?_
          apply wpList_nil
          refine hK _ _ ?_
          go_wp2_with fail
          refine bodyPost_ret (v := .agg (words (partW s.data.toList 64)).toArray) (results_cell_row rfl _ _ w.heap.size 160 (words (partW s.data.toList 64)).toArray (0, 0) _ (by kernel_rfl) (HR2.out.setRow _).out Try.underlying160 rfl (w64_info _ HLP.out)) rfl ⟨by rw [partW_full], Go.Proofs.Ytfglhemmccihfaa.Below.setRow HB2.out (Nat.le_refl _) _⟩
end Go.Proofs.Ytfglhemmccihfaa
