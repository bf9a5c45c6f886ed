/-
  Reference 03 (mac): block, Sum, Expand, Derive.
-/
import Derived.Test.YtdfgcjjaiggpkaaPlainM
import Derived.Test.YtdfgcjjaiggpkaaRshaC
namespace Go.Proofs.Ytdfgcjjaiggpkaa
open Go.RowKit

/-- The first k bytes turned, zeros behind. -/
def midL (P : List UInt8) (b : UInt8) (k : Nat) : List UInt8 := (P.take k).map (· ^^^ b) ++ List.replicate (64 - k) 0
theorem midL_length (P : List UInt8) (b : UInt8) (k : Nat) (hP : P.length = 64) (h : k ≤ 64) : (midL P b k).length = 64 := by
  unfold midL
  rw [List.length_append, List.length_map, List.length_take, List.length_replicate]; omega
theorem midL_get (P : List UInt8) (b : UInt8) (k : Nat) (hP : P.length = 64) (h : k < 64) : (midL P b k).getD k 0 = 0 := by
  unfold midL
  rw [List.getD_eq_getElem?_getD, List.getElem?_append_right (by rw [List.length_map, List.length_take]; omega)]
  rw [List.length_map, List.length_take, List.getElem?_replicate]
  rw [if_pos (by omega)]; rfl
theorem midL_set (P : List UInt8) (b : UInt8) (k : Nat) (hP : P.length = 64) (h : k < 64) : (midL P b k).set k (P.getD k 0 ^^^ b) = midL P b (k + 1) := by
  have hl : ((P.take k).map (· ^^^ b)).length = k := by rw [List.length_map, List.length_take]; omega
  have hg : P.getD k 0 = P[k] := by rw [List.getD_eq_getElem?_getD, List.getElem?_eq_getElem (by omega)]; rfl
  unfold midL
  rw [List.set_append_right _ _ (by rw [hl]; exact Nat.le_refl _), hl, Nat.sub_self, List.take_succ_eq_append_getElem (by omega), List.map_append, List.append_assoc]
  congr 1
  rw [show 64 - k = (64 - (k + 1)) + 1 by omega, List.replicate_succ, List.set_cons_zero, hg]
  rfl
theorem midL_full (P : List UInt8) (b : UInt8) (hP : P.length = 64) : midL P b 64 = P.map (· ^^^ b) := by
  unfold midL
  rw [List.take_of_length_le (by omega)]; simp
theorem cells_at (l : List UInt8) (i : Nat) (h : i < l.length) : (cells l).toArray[i]? = some (.int .u8 (bvi (l.getD i 0).toBitVec)) := by
  rw [List.getElem?_toArray, cells_get h, List.getD_eq_getElem?_getD, List.getElem?_eq_getElem h]; rfl
theorem cells_put (l : List UInt8) (i : Nat) (b : UInt8) : (cells l).toArray.setIfInBounds i (.int .u8 (bvi b.toBitVec)) = (cells (l.set i b)).toArray := by
  rw [List.setIfInBounds_toArray]
  show (((cells l).set i (u8c b)).toArray) = _
  rw [cells_set]
theorem make_64 (wx : World) : (Instr.makeSlice 49 (.int .i64 64) (.int .i64 64)).run Try.prog wx = .ok (.slice (some ⟨wx.heap.size, 0, none⟩) 64 64) (wx.alloc (.cells (cells (List.replicate 64 0)).toArray 5)) := by kernel_rfl
set_option maxRecDepth 100000 in
set_option maxHeartbeats 2000000 in
theorem Rblock_walk (key : ByteArray) (hk : key.size ≤ 140737488351232) (b : UInt8) (n : Int) (hn : bvi b.toBitVec = n) (q : ByteArray) (hq : Is q (turnK key.data.toList b)) (w : World) :
    Calls Try.prog 57 #[.string key, .int .u8 n] w fun e w' => e = .returned (.string q) ∧ Below w.heap.size w w' := by
  obtain ⟨sk, hsk⟩ : ∃ sk, Is sk (shortK key.data.toList) := ⟨_, Is.of _⟩
  have hkl : key.data.toList.length = key.size := by rw [Array.length_toList]; rfl
  have skz : sk.size ≤ 64 := by rw [hsk.size]; exact shortK_length _
  have HPL := Lib.hid (padK_length key.data.toList)
  have HPG := Lib.hid (show ∀ k (hk : k < sk.size), (padK key.data.toList).getD k 0 = sk[k] by
    intro k hk
    unfold padK
    rw [List.getD_eq_getElem?_getD, List.getElem?_append_left (by rw [← hsk.size]; exact hk), List.getElem?_eq_getElem (by rw [← hsk.size]; exact hk), hsk.get k hk]; rfl)
  have HPZ := Lib.hid (show ∀ k, sk.size ≤ k → (padK key.data.toList).getD k 0 = 0 by
    intro k hk
    unfold padK
    rw [List.getD_eq_getElem?_getD, List.getElem?_append_right (by rw [← hsk.size]; exact hk), List.getElem?_replicate]
    split <;> rfl)
  have HQ := Lib.hid (show Is q ((padK key.data.toList).map (· ^^^ b)) from hq)
  have HSK := Lib.hid hsk
  rw [← hn]
  generalize padK key.data.toList = P at HPL HPG HPZ HQ
  clear hq hn
  rcases Nat.lt_or_ge 64 key.size with hlong | hshort
  · have hd : decide ((64 : Int) < (key.size : Int)) = true := decide_eq_true (by omega)
    have HSH := Lib.hid (show Is sk (shaL key.data.toList) by
      have h := hsk
      unfold shortK at h
      rwa [if_pos (by rw [hkl]; exact hlong)] at h)
    clear hsk hkl
    go_enter Try.func57, Try.ntmps57
    go_wp2_with fail
    refine (RSum_walk key hk sk HSH.out _).mono ?_
    rintro e w1 ⟨rfl, hb1⟩
    have HB1 := Lib.hid hb1
    clear hb1 hd
    have hmk := make_64
    go_wp2_with fail
    clear hmk
    have HO := Lib.hid (RowAt.new w1 (cells (midL P b 0)).toArray 5 (0, 0))
    have HB2 := Lib.hid (below_alloc' HB1.out (.cells (cells (midL P b 0)).toArray 5))
    obtain ⟨ob, hob⟩ : ∃ ob, ob = w1.heap.size := ⟨_, rfl⟩
    have zo : w.heap.size ≤ ob := by rw [hob]; exact HB1.out.size
    change Code.wp _ _ _ _ (w1.alloc (.cells (cells (midL P b 0)).toArray 5))
    rw [← hob] at HO ⊢
    generalize w1.alloc (.cells (cells (midL P b 0)).toArray 5) = w2 at HO HB2 ⊢
    clear hob
    go_loopw [6] (fun i wr => ∃ k : Nat, k ≤ 64 ∧ i = .int .i64 k ∧ RowAt wr ob (cells (midL P b k)).toArray 5 (0, 0) ∧ Below w.heap.size w wr) (fun i _ => 64 - (intOf i).toNat)
    case atStart => exact ⟨0, Nat.zero_le _, rfl, HO.out, HB2.out⟩
    case round =>
      obtain ⟨k, hk, rfl, hrow, hbel⟩ := hrel
      have HR := Lib.hid hrow
      have HB := Lib.hid hbel
      clear hrow hbel
      rcases Nat.lt_or_ge k 64 with hlt | hge
      · have HML := Lib.hid (midL_length P b k HPL.out hk)
        have HST := Lib.hid (midL_set P b k HPL.out hlt)
        have d5 : (k : Int) < 64 := by omega
        have hg0 := midL_get P b k HPL.out hlt
        have f0 := HR.out.free (i := k) (by simp)
        rcases Nat.lt_or_ge k sk.size with hks | hks
        · have hd2 : decide ((k : Int) < (sk.size : Int)) = true := decide_eq_true (by omega)
          have HG := Lib.hid (HPG.out k hks)
          have c0 := HR.out.cell (cells_at (midL P b k) k (by rw [HML.out]; exact hlt))
          generalize (midL P b k).getD k 0 = x0 at c0
          clear hg0
          go_upto_region 9 with fail
          have hr2 := HR.out.store k (.int .u8 (bvi (sk[k]'hks).toBitVec))
          rw [cells_put] at hr2
          have HR2 := Lib.hid hr2
          have HB3 := Lib.hid (HB.out.setCell (p := ⟨ob, k, none⟩) zo (.int .u8 (bvi (sk[k]'hks).toBitVec)))
          have HS2 := Lib.hid (show ((midL P b k).set k (sk[k]'hks)).set k ((sk[k]'hks) ^^^ b) = midL P b (k + 1) by
            rw [List.set_set, ← HST.out, HG.out])
          have c1 := hr2.cell (cells_at ((midL P b k).set k (sk[k]'hks)) k (by rw [List.length_set, HML.out]; exact hlt))
          have hgs : ((midL P b k).set k (sk[k]'hks)).getD k 0 = sk[k]'hks := by
            rw [List.getD_eq_getElem?_getD, List.getElem?_set_self (by rw [HML.out]; exact hlt)]; rfl
          rw [hgs] at c1
          have f1 := hr2.free (i := k) (by simp)
          clear c0 f0 hr2 hgs
          generalize wr.setCell ⟨ob, k, none⟩ (.int .u8 (bvi (sk[k]'hks).toBitVec)) = w3 at HR2 HB3 c1 f1 ⊢
          generalize (sk[k]'hks) = y at HR2 HS2 c1 ⊢
          go_wp2_with fail
          go_roundw
          case rel =>
            refine ⟨k + 1, by omega, by go_num, ?_, HB3.out.setCell (p := ⟨ob, k, none⟩) zo _⟩
            rw [← HS2.out, ← cells_put]
            exact HR2.out.store k _
          case measure => simp [intOf]; omega
        · have hd2 : decide ((k : Int) < (sk.size : Int)) = false := decide_eq_false (by omega)
          have HG := Lib.hid (HPZ.out k hks)
          have c0 := HR.out.cell (cells_at (midL P b k) k (by rw [HML.out]; exact hlt))
          rw [hg0] at c0
          have HS2 := Lib.hid (show (midL P b k).set k (0 ^^^ b) = midL P b (k + 1) by rw [← HST.out, HG.out])
          obtain ⟨z, hz⟩ : ∃ z : UInt8, z = 0 := ⟨_, rfl⟩
          rw [← hz] at c0 HS2
          clear hg0 hz
          go_wp2_with fail
          go_roundw
          case rel =>
            refine ⟨k + 1, by omega, by go_num, ?_, HB.out.setCell (p := ⟨ob, k, none⟩) zo _⟩
            rw [← HS2.out, ← cells_put]
            exact HR.out.store k _
          case measure => simp [intOf]; omega
      · obtain rfl : k = 64 := by omega
        have hst := run_str (P := Try.prog) wr 49 5 Try.underlying49 Try.underlying5 9 Try.underlying9 ob 64 64 _ 5 (0, 0) (midL P b 64) HR.out.out (midL_length P b 64 HPL.out (Nat.le_refl _)) (List.take_of_length_le (by rw [cells_length, midL_length P b 64 HPL.out (Nat.le_refl _)]; exact Nat.le_refl _))
        have hd3 : decide (((64 : Nat) : Int) < 64) = false := rfl
        go_wp2_with fail
        go_ret
        refine ⟨ret_val (congrArg Value.string ?_), HB.out⟩
        rw [HQ.out.eq, ← midL_full P b HPL.out]
  · have hd : decide ((64 : Int) < (key.size : Int)) = false := decide_eq_false (by omega)
    have hkk : key = sk := by
      refine (Is.self key).inj ?_
      have h := hsk
      unfold shortK at h
      rwa [if_neg (by rw [hkl]; omega)] at h
    subst hkk
    have HB1 := Lib.hid (Below.refl w.heap.size w)
    clear hsk hkl
    go_enter Try.func57, Try.ntmps57
    go_upto_region 3 with fail
    clear hd
    have hmk := make_64
    go_wp2_with fail
    clear hmk
    have HO := Lib.hid (RowAt.new w (cells (midL P b 0)).toArray 5 (0, 0))
    have HB2 := Lib.hid (below_alloc' HB1.out (.cells (cells (midL P b 0)).toArray 5))
    obtain ⟨ob, hob⟩ : ∃ ob, ob = w.heap.size := ⟨_, rfl⟩
    have zo : w.heap.size ≤ ob := by rw [hob]; exact HB1.out.size
    change Code.wp _ _ _ _ (w.alloc (.cells (cells (midL P b 0)).toArray 5))
    rw [← hob] at HO ⊢
    generalize w.alloc (.cells (cells (midL P b 0)).toArray 5) = w2 at HO HB2 ⊢
    clear hob
    go_loopw [6] (fun i wr => ∃ k : Nat, k ≤ 64 ∧ i = .int .i64 k ∧ RowAt wr ob (cells (midL P b k)).toArray 5 (0, 0) ∧ Below w.heap.size w wr) (fun i _ => 64 - (intOf i).toNat)
    case atStart => exact ⟨0, Nat.zero_le _, rfl, HO.out, HB2.out⟩
    case round =>
      obtain ⟨k, hk, rfl, hrow, hbel⟩ := hrel
      have HR := Lib.hid hrow
      have HB := Lib.hid hbel
      clear hrow hbel
      rcases Nat.lt_or_ge k 64 with hlt | hge
      · have HML := Lib.hid (midL_length P b k HPL.out hk)
        have HST := Lib.hid (midL_set P b k HPL.out hlt)
        have d5 : (k : Int) < 64 := by omega
        have hg0 := midL_get P b k HPL.out hlt
        have f0 := HR.out.free (i := k) (by simp)
        rcases Nat.lt_or_ge k key.size with hks | hks
        · have hd2 : decide ((k : Int) < (key.size : Int)) = true := decide_eq_true (by omega)
          have HG := Lib.hid (HPG.out k hks)
          have c0 := HR.out.cell (cells_at (midL P b k) k (by rw [HML.out]; exact hlt))
          generalize (midL P b k).getD k 0 = x0 at c0
          clear hg0
          go_upto_region 9 with fail
          have hr2 := HR.out.store k (.int .u8 (bvi (key[k]'hks).toBitVec))
          rw [cells_put] at hr2
          have HR2 := Lib.hid hr2
          have HB3 := Lib.hid (HB.out.setCell (p := ⟨ob, k, none⟩) zo (.int .u8 (bvi (key[k]'hks).toBitVec)))
          have HS2 := Lib.hid (show ((midL P b k).set k (key[k]'hks)).set k ((key[k]'hks) ^^^ b) = midL P b (k + 1) by
            rw [List.set_set, ← HST.out, HG.out])
          have c1 := hr2.cell (cells_at ((midL P b k).set k (key[k]'hks)) k (by rw [List.length_set, HML.out]; exact hlt))
          have hgs : ((midL P b k).set k (key[k]'hks)).getD k 0 = key[k]'hks := by
            rw [List.getD_eq_getElem?_getD, List.getElem?_set_self (by rw [HML.out]; exact hlt)]; rfl
          rw [hgs] at c1
          have f1 := hr2.free (i := k) (by simp)
          clear c0 f0 hr2 hgs
          generalize wr.setCell ⟨ob, k, none⟩ (.int .u8 (bvi (key[k]'hks).toBitVec)) = w3 at HR2 HB3 c1 f1 ⊢
          generalize (key[k]'hks) = y at HR2 HS2 c1 ⊢
          go_wp2_with fail
          go_roundw
          case rel =>
            refine ⟨k + 1, by omega, by go_num, ?_, HB3.out.setCell (p := ⟨ob, k, none⟩) zo _⟩
            rw [← HS2.out, ← cells_put]
            exact HR2.out.store k _
          case measure => simp [intOf]; omega
        · have hd2 : decide ((k : Int) < (key.size : Int)) = false := decide_eq_false (by omega)
          have HG := Lib.hid (HPZ.out k hks)
          have c0 := HR.out.cell (cells_at (midL P b k) k (by rw [HML.out]; exact hlt))
          rw [hg0] at c0
          have HS2 := Lib.hid (show (midL P b k).set k (0 ^^^ b) = midL P b (k + 1) by rw [← HST.out, HG.out])
          obtain ⟨z, hz⟩ : ∃ z : UInt8, z = 0 := ⟨_, rfl⟩
          rw [← hz] at c0 HS2
          clear hg0 hz
          go_wp2_with fail
          go_roundw
          case rel =>
            refine ⟨k + 1, by omega, by go_num, ?_, HB.out.setCell (p := ⟨ob, k, none⟩) zo _⟩
            rw [← HS2.out, ← cells_put]
            exact HR.out.store k _
          case measure => simp [intOf]; omega
      · obtain rfl : k = 64 := by omega
        have hst := run_str (P := Try.prog) wr 49 5 Try.underlying49 Try.underlying5 9 Try.underlying9 ob 64 64 _ 5 (0, 0) (midL P b 64) HR.out.out (midL_length P b 64 HPL.out (Nat.le_refl _)) (List.take_of_length_le (by rw [cells_length, midL_length P b 64 HPL.out (Nat.le_refl _)]; exact Nat.le_refl _))
        have hd3 : decide (((64 : Nat) : Int) < 64) = false := rfl
        go_wp2_with fail
        go_ret
        refine ⟨ret_val (congrArg Value.string ?_), HB.out⟩
        rw [HQ.out.eq, ← midL_full P b HPL.out]
set_option maxRecDepth 100000 in
set_option maxHeartbeats 1000000 in
theorem RMSum_walk (key text : ByteArray) (hk : key.size ≤ 140737488351000) (ht : text.size ≤ 140737488351000) (q : ByteArray) (hq : Is q (macL key.data.toList text.data.toList)) (w : World) :
    Calls Try.prog 31 #[.string key, .string text] w fun e w' => e = .returned (.string q) ∧ Below w.heap.size w w' := by
  obtain ⟨q1, hq1⟩ : ∃ q1, Is q1 (turnK key.data.toList 92) := ⟨_, Is.of _⟩
  obtain ⟨q2, hq2⟩ : ∃ q2, Is q2 (turnK key.data.toList 54) := ⟨_, Is.of _⟩
  obtain ⟨q3, hq3⟩ : ∃ q3, Is q3 (shaL (q2 ++ text).data.toList) := ⟨_, Is.of _⟩
  have HQ := Lib.hid (show Is q (shaL (q1 ++ q3).data.toList) by
    have h1 := hq3.out
    rw [(hq2.append (Is.self text)).out] at h1
    rw [(hq1.append (show Is q3 (shaL (turnK key.data.toList 54 ++ text.data.toList)) from h1)).out]
    exact hq)
  have z1 : q1.size = 64 := by rw [hq1.size, turnK_length]
  have z2 : q2.size = 64 := by rw [hq2.size, turnK_length]
  have z3 : q3.size = 32 := by rw [hq3.size, shaL_length]
  have hov1 : ¬ 9223372036854775807 < q2.size + text.size := by omega
  have hov2 : ¬ 9223372036854775807 < q1.size + q3.size := by omega
  have HZ1 := Lib.hid (show (q2 ++ text).size ≤ 140737488351232 by rw [ByteArray.size_append]; omega)
  have HZ2 := Lib.hid (show (q1 ++ q3).size ≤ 140737488351232 by rw [ByteArray.size_append]; omega)
  have HQ1 := Lib.hid hq1
  have HQ2 := Lib.hid hq2
  have HQ3 := Lib.hid hq3
  clear hq hq1 hq2 hq3 z1 z2 z3
  go_enter Try.func31, Try.ntmps31
  go_wp2_with fail
  refine (Rblock_walk key (by omega) 92 _ rfl q1 HQ1.out _).mono ?_
  rintro e w1 ⟨rfl, hb1⟩
  have HB1 := Lib.hid hb1
  clear hb1
  go_wp2_with fail
  refine (Rblock_walk key (by omega) 54 _ rfl q2 HQ2.out _).mono ?_
  rintro e w2 ⟨rfl, hb2⟩
  have HB2 := Lib.hid (bthen HB1.out hb2)
  clear hb2
  go_wp2_with fail
  refine (RSum_walk (q2 ++ text) HZ1.out q3 HQ3.out _).mono ?_
  rintro e w3 ⟨rfl, hb3⟩
  have HB3 := Lib.hid (bthen HB2.out hb3)
  clear hb3
  go_wp2_with fail
  refine (RSum_walk (q1 ++ q3) HZ2.out q HQ.out _).mono ?_
  rintro e w4 ⟨rfl, hb4⟩
  go_wp2_with fail
  go_ret
  exact ⟨rfl, bthen HB3.out hb4⟩
theorem Rbyte_of (k : Nat) : (⟨BitVec.ofInt 8 ((k : Int) + 1)⟩ : UInt8) = UInt8.ofNat (k + 1) := by
  have : (k : Int) + 1 = ((k + 1 : Nat) : Int) := by omega
  rw [this, BitVec.ofInt_natCast]
  rfl
set_option maxRecDepth 100000 in
set_option maxHeartbeats 1000000 in
theorem RExpand_ok (key info : ByteArray) (n : Nat) (hn : n ≤ 8160) (hk : key.size ≤ 140737488351000) (hi : info.size ≤ 140737488350000) (q : ByteArray) (hq : Is q (expandL key.data.toList info.data.toList n)) (w : World) :
    Calls Try.prog 36 #[.string key, .string info, .int .i64 n] w fun e w' => e = .returned (.tuple #[.string q, .int .i64 0]) ∧ Below w.heap.size w w' := by
  have HQ := Lib.hid hq
  have g1 : decide ((n : Int) < 0) = false := decide_eq_false (by omega)
  have g2 : decide ((8160 : Int) < (n : Int)) = false := decide_eq_false (by omega)
  clear hq
  go_enter Try.func36, Try.ntmps36
  go_wp2_with fail
  go_loopg [8, 9, 10] ((n + 31) / 32) (fun gg o p i wr => ∃ (k : Nat) (out part : ByteArray), k + gg = (n + 31) / 32 ∧ i = .int .i64 ((k : Int) + 1) ∧ o = .string out ∧ p = .string part ∧ Is part (partK key.data.toList info.data.toList k) ∧ Is out (outK key.data.toList info.data.toList k) ∧ Below w.heap.size w wr)
  case atStart => exact ⟨0, _, _, by omega, rfl, rfl, rfl, Is.of [], Is.of [], Below.refl _ _⟩
  case round =>
    obtain ⟨k, out, part, hgg, rfl, rfl, rfl, hp, ho, hb⟩ := hrel
    have HB2 := Lib.hid hb
    have HP := Lib.hid hp
    have HO := Lib.hid ho
    have hpz : part.size ≤ 32 := by rw [hp.size]; exact partK_length _ _ _
    have hoz : out.size = 32 * k := by rw [ho.size, outK_length]
    have HOZ := Lib.hid hoz
    have HGG := Lib.hid hgg
    rcases Nat.lt_or_ge (32 * k) n with hlt | hge
    · have hL : decide (out.size < n) = true := decide_eq_true (by omega)
      have hov1 : ¬ 9223372036854775807 < part.size + info.size := by omega
      have hov2 : ¬ 9223372036854775807 < part.size + info.size + 1 := by omega
      have hst := fun wx => run_str_one0 (P := Try.prog) wx 49 5 Try.underlying49 Try.underlying5 9 Try.underlying9 (BitVec.ofInt 8 ((k : Int) + 1))
      have hoz2 : out.size ≤ 8160 := by omega
      clear hb hgg hp ho hoz
      go_wp2_with fail
      clear hst
      rw [Rbyte_of]
      obtain ⟨q1, hq1⟩ : ∃ q1, Is q1 (partK key.data.toList info.data.toList (k + 1)) := ⟨_, Is.of _⟩
      have HQ1 := Lib.hid (show Is q1 (macL key.data.toList (part ++ info ++ ⟨#[UInt8.ofNat (k + 1)]⟩).data.toList) by
        rw [((HP.out.append (Is.self info)).append (Is.of [UInt8.ofNat (k + 1)])).out]
        exact hq1)
      have HPQ := Lib.hid hq1
      have q1z : q1.size = 32 := by rw [hq1.size, partK, macL_length]
      have hov3 : ¬ 9223372036854775807 < out.size + q1.size := by omega
      have htz : (part ++ info ++ ⟨#[UInt8.ofNat (k + 1)]⟩).size ≤ 140737488351000 := by
        rw [ByteArray.size_append, ByteArray.size_append]
        show part.size + info.size + 1 ≤ _
        omega
      clear hq1 q1z
      refine (RMSum_walk key _ hk htz q1 HQ1.out _).mono ?_
      rintro e w6 ⟨rfl, hb6⟩
      have HB6 := Lib.hid (bthen HB2.out (bthen ((Below.refl wr.heap.size wr).alloc (Nat.le_refl _) _) hb6))
      clear hb6
      go_wp2_with fail
      go_roundg (gk - 1)
      case measure => have := HGG.out; omega
      case rel =>
        refine ⟨k + 1, out ++ q1, q1, by have := HGG.out; omega, by go_num, rfl, rfl, HPQ.out, ?_, HB6.out⟩
        rw [outK]
        exact HO.out.append HPQ.out
    · have hL : decide (out.size < n) = false := decide_eq_false (by omega)
      have HKK := Lib.hid (show (n + 31) / 32 = k by omega)
      have hRn : n ≤ out.size := by omega
      have HRR := Lib.hid (ho.extract 0 n)
      clear hb hgg hp ho hoz
      go_wp2_with fail
      go_ret2
      refine ⟨ret_val ?_, HB2.out⟩
      have h := HRR.out
      rw [List.drop_zero, Nat.sub_zero, ← HKK.out] at h
      have h2 : out.extract 0 n = q := h.inj HQ.out
      rw [← h2]
      rfl
set_option maxHeartbeats 400000 in
theorem RExpand_no (key info : ByteArray) (n : Int) (h : n < 0 ∨ 8160 < n) (w : World) :
    Calls Try.prog 36 #[.string key, .string info, .int .i64 n] w fun e w' => e = .returned (.tuple #[.string ⟨#[]⟩, .int .i64 5]) ∧ w = w' := by
  by_cases h2 : n < 0
  · have g1 : decide (n < 0) = true := decide_eq_true h2
    clear h
    go_enter Try.func36, Try.ntmps36
    go_wp2_with fail
    go_ret2
    exact ⟨rfl, rfl⟩
  · have g1 : decide (n < 0) = false := decide_eq_false h2
    have g2 : decide ((8160 : Int) < n) = true := decide_eq_true (by omega)
    clear h
    go_enter Try.func36, Try.ntmps36
    go_wp2_with fail
    go_ret2
    exact ⟨rfl, rfl⟩
set_option maxHeartbeats 400000 in
theorem RDerive_ok (salt secret info : ByteArray) (n : Nat) (hn : n ≤ 8160) (hsa : salt.size ≤ 140737488351000) (hse : secret.size ≤ 140737488351000) (hi : info.size ≤ 140737488350000) (q : ByteArray) (hq : Is q (expandL (macL salt.data.toList secret.data.toList) info.data.toList n)) (w : World) :
    Calls Try.prog 38 #[.string salt, .string secret, .string info, .int .i64 n] w fun e w' => e = .returned (.tuple #[.string q, .int .i64 0]) ∧ Below w.heap.size w w' := by
  obtain ⟨x, hx⟩ : ∃ x, Is x (macL salt.data.toList secret.data.toList) := ⟨_, Is.of _⟩
  have HX := Lib.hid hx
  have HQ := Lib.hid (show Is q (expandL x.data.toList info.data.toList n) by rw [hx.out]; exact hq)
  have hxz : x.size ≤ 140737488351000 := by rw [hx.size, macL_length]; decide
  clear hx hq
  go_enter Try.func38, Try.ntmps38
  go_wp2_with fail
  refine (RMSum_walk salt secret hsa hse x HX.out _).mono ?_
  rintro e w1 ⟨rfl, hb1⟩
  have HB1 := Lib.hid hb1
  clear hb1
  go_wp2_with fail
  refine (RExpand_ok x info n hn hxz hi q HQ.out _).mono ?_
  rintro e w2 ⟨rfl, hb2⟩
  go_wp2_with fail
  go_ret2
  exact ⟨rfl, bthen HB1.out hb2⟩
set_option maxHeartbeats 400000 in
theorem RDerive_no (salt secret info : ByteArray) (n : Int) (h : n < 0 ∨ 8160 < n) (hsa : salt.size ≤ 140737488351000) (hse : secret.size ≤ 140737488351000) (w : World) :
    Calls Try.prog 38 #[.string salt, .string secret, .string info, .int .i64 n] w fun e w' => e = .returned (.tuple #[.string ⟨#[]⟩, .int .i64 5]) ∧ Below w.heap.size w w' := by
  obtain ⟨x, hx⟩ : ∃ x, Is x (macL salt.data.toList secret.data.toList) := ⟨_, Is.of _⟩
  have HX := Lib.hid hx
  have HH := Lib.hid h
  clear hx h
  go_enter Try.func38, Try.ntmps38
  go_wp2_with fail
  refine (RMSum_walk salt secret hsa hse x HX.out _).mono ?_
  rintro e w1 ⟨rfl, hb1⟩
  have HB1 := Lib.hid hb1
  clear hb1
  go_wp2_with fail
  refine (RExpand_no x info n HH.out _).mono ?_
  rintro e w2 ⟨rfl, rfl⟩
  go_wp2_with fail
  go_ret2
  exact ⟨rfl, HB1.out⟩
end Go.Proofs.Ytdfgcjjaiggpkaa
