/-
  Layer 2's laws, walked: ShaBlocks, ShaAdds.
-/
import Derived.Test.YtdfgcjjaiggpkaaL02C
import Derived.Test.YtdfgcjjaiggpkaaEq
namespace Go.Proofs.Ytdfgcjjaiggpkaa
open Go.RowKit

theorem zero8_length : zero8.length = 8 := rfl
set_option maxRecDepth 100000 in
set_option maxHeartbeats 2000000 in
theorem ShaBlocks_w (text : ByteArray) (w : World) : Calls Try.prog 6 #[.string text] w fun e w' => e = .returned (.bool true) ∧ Below w.heap.size w w' := by
  obtain ⟨G, hG⟩ : ∃ G, G = firstS := ⟨_, rfl⟩
  obtain ⟨pd, hpd⟩ : ∃ pd, Is pd (padL (BitVec.ofNat 64 text.size)) := ⟨_, Is.of _⟩
  have HTL := Lib.hid (show text.data.toList.length = text.size by rw [Array.length_toList]; rfl)
  obtain ⟨ab, hab⟩ : ∃ ab, ab = text ++ pd := ⟨_, rfl⟩
  have HA := Lib.hid (show Is ab (allS text.data.toList) by
    rw [hab]
    unfold allS
    rw [HTL.out]
    exact (Is.self text).append hpd)
  have hpz : pd.size ≤ 73 := by have := zerosS_lt (BitVec.ofNat 64 text.size); rw [hpd.size, padL_length]; omega
  have hmz : ab.size % 64 = 0 := by rw [HA.out.size]; exact allS_mod _
  have haz0 := allS_length text.data.toList
  rw [← HA.out.size, HTL.out] at haz0
  have HG := Lib.hid hG
  have HGL := Lib.hid (show G.length = 8 by rw [hG]; rfl)
  have HPD := Lib.hid hpd
  have HAB := Lib.hid hab
  clear hG hpd hab
  go_enter Try.func6, Try.ntmps6
  go_wp2_with fail
  refine (awake02 _).mono ?_
  rintro e w1 ⟨rfl, hb1⟩
  have HB1 := Lib.hid hb1
  clear hb1
  rcases Nat.lt_or_ge 4096 text.size with ht | ht
  · go_wp2_with fail
    go_ret
    exact ⟨rfl, HB1.out⟩
  have hd : decide ((4096 : Int) < (text.size : Int)) = false := decide_eq_false (by omega)
  have hov : ¬ 9223372036854775807 < text.size + pd.size := by omega
  go_wp2_with fail
  refine (Pad_as _ pd HPD.out _).mono ?_
  rintro e w2 ⟨rfl, hb2⟩
  have HB2 := Lib.hid (bthen HB1.out hb2)
  have hm0 : ((ab.size : Int) % 64 != 0) = false := by rw [bne_eq_false_iff_eq]; omega
  clear hb2 hd
  go_upto_region 6 with fail
  rw [← HAB.out]
  go_wp2_with fail
  refine (First_as G HG.out _).mono ?_
  rintro e w3 ⟨rfl, hb3⟩
  have HB3 := Lib.hid (bthen HB2.out hb3)
  clear hb3
  go_upto_region 9 with (with_reducible refine wpList_store_rowTo rfl 27 (.tmp 4) (.tmp 25) rfl rfl w3.heap.size (words G).toArray ?g1 ?g2 27 (words zero8).toArray ?g0 ?g3 ?g4 ?g5 ?_)
  case g1 => rfl
  case g2 => rfl
  case g0 => exact (RowAt.new w3 _ _ _).out
  case g3 => exact w8_info _ HGL.out
  case g4 => rw [words_size, words_size, HGL.out]; rfl
  case g5 => exact wordsS_cells _
  rw [World.setRow_alloc_new]
  have HS4 := Lib.hid (RowAt.new w3 (words G).toArray 27 (0, 0))
  have HB4 := Lib.hid (below_alloc' HB3.out (.cells (words G).toArray 27))
  have zs : w.heap.size ≤ w3.heap.size := HB3.out.size
  generalize w3.alloc (.cells (words G).toArray 27) = w4 at HS4 HB4 ⊢
  generalize w3.heap.size = sb at HS4 zs ⊢
  clear HB3 HB2 HB1 hm0
  go_wp2_with fail
  go_loopw [5] (fun i wr => ∃ j : Nat, 64 * j ≤ ab.size ∧ i = .int .i64 (64 * (j : Int)) ∧ RowAt wr sb (words (mixK G ab.data.toList j)).toArray 27 (0, 0) ∧ Below w.heap.size w wr) (fun i _ => ab.size - (intOf i).toNat)
  case atStart => exact ⟨0, by omega, rfl, HS4.out, HB4.out⟩
  case round =>
    obtain ⟨j, hj, rfl, hrow, hb⟩ := hrel
    have HROW := Lib.hid hrow
    have HB := Lib.hid hb
    have hml : (mixK G ab.data.toList j).length = 8 := by rw [mixK_length]; exact HGL.out
    have HLC := Lib.hid hml
    have zw := hb.size
    clear hb
    rcases Nat.lt_or_ge (64 * j) ab.size with hlt | hge
    · have hx := (Is.self ab).extract (64 * j) (64 * j + 64)
      rw [show 64 * j + 64 - 64 * j = 64 by omega] at hx
      have HXZ := Lib.hid (show (ab.extract (64 * j) (64 * j + 64)).size = 64 by rw [ByteArray.size_extract]; omega)
      have hk3 : 64 * (j : Int) + 64 ≤ (ab.size : Int) := by omega
      have hd : decide (64 * (j : Int) < (ab.size : Int)) = true := decide_eq_true (by omega)
      obtain ⟨nw, hnw⟩ : ∃ nw, nw = mixK G ab.data.toList (j + 1) := ⟨_, rfl⟩
      have HLN := Lib.hid (show nw.length = 8 by rw [hnw, mixK_length]; exact HGL.out)
      have HNW := Lib.hid (show nw = mixS (mixK G ab.data.toList j) (ab.extract (64 * j) (64 * j + 64)).data.toList by rw [hnw, mixK, blockS, ← hx.out])
      have HFS := Lib.hid hnw
      clear hx hnw hrow
      generalize mixK G ab.data.toList j = cur at HROW HLC HNW hml
      go_wp2_with fail
      refine region_table (by kernel_rfl) [33, 34, 35, 36, 37, 38, 39, 32, 40, 41, 6, 7]
        (fun i x_ => match i with
          | 0 => x_ = .agg (words cur).toArray
          | 1 => x_ = .string ab
          | 2 => x_ = .int .i64 (64 * (j : Int))
          | 3 => x_ = .int .i64 (64 * (j : Int))
          | 4 => x_ = .int .i64 (64 * (j : Int) + 64)
          | 5 => x_ = .string (ab.extract (64 * j) (64 * j + 64))
          | 6 => x_ = .tuple #[.agg (words nw).toArray, .int .i64 (0)]
          | 7 => x_ = .tuple #[.agg (words nw).toArray, .int .i64 (0)]
          | 8 => x_ = .agg (words nw).toArray
          | 9 => x_ = .int .i64 (0)
          | 10 => True
          | 11 => True
          | 12 => x_ = .int .i64 (0)
          | _ => True) (fun L sl w' => Below wr.heap.size wr w' ∧ (L 10 = true → ∃ g, sl 6 = .pointer (some ⟨g, 0, none⟩) ∧ wr.heap.size ≤ g ∧ RowAt w' g (words (if L 11 = true then nw else zero8)).toArray 27 (0, 0)) ∧ (L 11 = true → L 10 = true)) (by kernel_rfl) (by kernel_rfl) rfl (by kernel_rfl) (⟨(Below.refl _ _).drew, (fun h => by cases h), (fun h => by cases h)⟩) ?_ ?_
      · refine StepsOk.cons ?_ (StepsOk.cons ?_ (StepsOk.cons ?_ (StepsOk.cons ?_ (StepsOk.cons ?_ (StepsOk.cons ?_ (StepsOk.cons ?_ (StepsOk.cons ?_ (StepsOk.cons ?_ (StepsOk.cons ?_ (StepsOk.cons ?_ (StepsOk.cons ?_ (StepsOk.cons ?_ StepsOk.nil))))))))))))
        · intro L a w4 Kx hl hsz hs ht hr he hK
          refine step_plain rfl ?_
          have h4 : a.tmps.getD 4 undef = .pointer (some ⟨sb, 0, none⟩) := (hs 4 (by decide)).trans rfl
          refine wp_load_row 27 _ rfl sb h4 27 (words cur).toArray (0, 0) _ (HROW.out.below hr.1 HROW.out.lt).out Try.underlying27 rfl (w8_info _ HLC.out) (hK _ _ rfl (by simpa [slot_ne] using hr))
        · intro L a w4 Kx hl hsz hs ht hr he hK
          refine step_plain rfl ?_
          have h3 : a.tmps.getD 3 undef = .string ab := (hs 3 (by decide)).trans rfl
          go_simp
          exact hK _ _ rfl (by simpa [slot_ne] using hr)
        · intro L a w4 Kx hl hsz hs ht hr he hK
          refine step_plain rfl ?_
          have h5 : a.tmps.getD 5 undef = .int .i64 (64 * (j : Int)) := (hs 5 (by decide)).trans rfl
          go_simp
          exact hK _ _ rfl (by simpa [slot_ne] using hr)
        · intro L a w4 Kx hl hsz hs ht hr he hK
          refine step_plain rfl ?_
          have h5 : a.tmps.getD 5 undef = .int .i64 (64 * (j : Int)) := (hs 5 (by decide)).trans rfl
          go_simp
          exact hK _ _ rfl (by simpa [slot_ne] using hr)
        · intro L a w4 Kx hl hsz hs ht hr he hK
          refine step_plain rfl ?_
          have h36 : a.tmps.getD 36 undef = .int .i64 (64 * (j : Int)) := ht 3 (he 3 (by kernel_rfl)) 36 rfl
          have hwr : IntKind.i64.wrap (64 * (j : Int) + 64) = 64 * (j : Int) + 64 := IntWalk.i64_in _ (by omega)
          go_simp
          exact hK _ _ rfl (by simpa [slot_ne] using hr)
        · intro L a w4 Kx hl hsz hs ht hr he hK
          refine step_plain rfl ?_
          have h34 : a.tmps.getD 34 undef = .string ab := ht 1 (he 1 (by kernel_rfl)) 34 rfl
          have h35 : a.tmps.getD 35 undef = .int .i64 (64 * (j : Int)) := ht 2 (he 2 (by kernel_rfl)) 35 rfl
          have h37 : a.tmps.getD 37 undef = .int .i64 (64 * (j : Int) + 64) := ht 4 (he 4 (by kernel_rfl)) 37 rfl
          have q1 : (0 : Int) ≤ 64 * (j : Int) + 64 := by omega
          have q2 : (0 : Int) ≤ 64 * (j : Int) := by omega
          have q3 : 64 * (j : Int) ≤ 64 * (j : Int) + 64 := by omega
          have q4 : (64 * (j : Int)).toNat = 64 * j := by omega
          have q5 : (64 * (j : Int) + 64).toNat = 64 * j + 64 := by omega
          go_simp
          exact hK _ _ rfl (by simpa [slot_ne] using hr)
        · intro L a w4 Kx hl hsz hs ht hr he hK
          refine step_plain rfl ?_
          have h33 : a.tmps.getD 33 undef = .agg (words cur).toArray := ht 0 (he 0 (by kernel_rfl)) 33 rfl
          have h38 : a.tmps.getD 38 undef = .string (ab.extract (64 * j) (64 * j + 64)) := ht 5 (he 5 (by kernel_rfl)) 38 rfl
          go_simp
          refine (Mix_as cur HLC.out (ab.extract (64 * j) (64 * j + 64)) HXZ.out nw HNW.out _).mono ?_
          rintro e w5 ⟨rfl, hb5⟩
          exact hK _ _ rfl (by simpa [slot_ne] using (show Below wr.heap.size wr w5 ∧ (L 10 = true → ∃ g, slot a 6 = .pointer (some ⟨g, 0, none⟩) ∧ wr.heap.size ≤ g ∧ RowAt w5 g (words (if L 11 = true then nw else zero8)).toArray 27 (0, 0)) ∧ (L 11 = true → L 10 = true) from ⟨bthen hr.1 hb5, fun h => by obtain ⟨g, h3, hg, hrow⟩ := hr.2.1 h; exact ⟨g, h3, hg, hrow.below hb5 hrow.lt⟩, hr.2.2⟩))
        · intro L a w4 Kx hl hsz hs ht hr he hK
          refine step_plain rfl ?_
          have h39 : a.tmps.getD 39 undef = .tuple #[.agg (words nw).toArray, .int .i64 (0)] := ht 6 (he 6 (by kernel_rfl)) 39 rfl
          go_simp
          exact hK _ _ rfl (by simpa [slot_ne] using hr)
        · intro L a w4 Kx hl hsz hs ht hr he hK
          refine step_plain rfl ?_
          have h32 : a.tmps.getD 32 undef = .tuple #[.agg (words nw).toArray, .int .i64 (0)] := ht 7 (he 7 (by kernel_rfl)) 32 rfl
          go_simp
          exact hK _ _ rfl (by simpa [slot_ne] using hr)
        · intro L a w4 Kx hl hsz hs ht hr he hK
          refine step_plain rfl ?_
          have h32 : a.tmps.getD 32 undef = .tuple #[.agg (words nw).toArray, .int .i64 (0)] := ht 7 (he 7 (by kernel_rfl)) 32 rfl
          go_simp
          exact hK _ _ rfl (by simpa [slot_ne] using hr)
        · intro L a w4 Kx hl hsz hs ht hr he hK
          refine step_plain rfl ?_
          have hx : L 11 = false := by
            cases hy : L 11 with
            | false => rfl
            | true => have := hr.2.2 hy; rw [hl] at this; cases this
          go_simp
          refine hK _ _ trivial ⟨below_alloc' hr.1 _, fun _ => ⟨w4.heap.size, slot_out (by rw [hsz]; exact of_decide_eq_true (by kernel_rfl)), hr.1.size, ?_⟩, fun h => ?_⟩
          · show RowAt _ _ (words (if (L 11 || false) = true then _ else _)).toArray _ _
            rw [hx]
            exact RowAt.new w4 _ _ _
          · show (L 10 || true) = true
            rw [Bool.or_true]
        · intro L a w4 Kx hl hsz hs ht hr he hK
          refine step_plain rfl ?_
          have h40 : a.tmps.getD 40 undef = .agg (words nw).toArray := ht 8 (he 8 (by kernel_rfl)) 40 rfl
          obtain ⟨g, h3, hg, hrow⟩ := hr.2.1 (he 10 (by kernel_rfl))
          rw [hl] at hrow
          refine wp_store_row 27 _ _ rfl g (words nw).toArray h3 h40 27 _ hrow.out (w8_info _ HLN.out) (by rw [if_neg (by decide), words_size, words_size, HLN.out, zero8_length]) (wordsS_cells _) (hK _ _ trivial ⟨Go.Proofs.Ytdfgcjjaiggpkaa.Below.setRow hr.1 hg _, fun _ => ⟨g, h3, hg, ?_⟩, fun _ => ?_⟩)
          · show RowAt _ _ (words (if (L 11 || true) = true then _ else _)).toArray _ _
            rw [Bool.or_true, if_pos rfl]
            exact hrow.setRow _
          · show (L 10 || false) = true
            rw [he 10 (by kernel_rfl)]; rfl
        · intro L a w4 Kx hl hsz hs ht hr he hK
          refine step_plain rfl ?_
          have h41 : a.tmps.getD 41 undef = .int .i64 (0) := ht 9 (he 9 (by kernel_rfl)) 41 rfl
          go_simp
          exact hK _ _ rfl (by simpa [slot_ne] using hr)
      · intro f L w4 hf hall hr
        obtain ⟨g, h6, hg, hrow⟩ := hr.2.1 (hall 10 (by decide))
        rw [hall 11 (by decide), if_pos rfl] at hrow
        have h7 : f 7 = .int .i64 (0) := hf 12 (by decide) 7 rfl
        have P1 := Lib.hid hrow
        have P2 := Lib.hid hr.1
        simp only [List.foldl, Act.put, List.setIfInBounds_toArray, List.set_cons_zero, List.set_cons_succ]
        rw [h6, h7]
        clear hf h6 h7
        generalize f 33 = z33
        generalize f 34 = z34
        generalize f 35 = z35
        generalize f 36 = z36
        generalize f 37 = z37
        generalize f 38 = z38
        generalize f 39 = z39
        generalize f 32 = z32
        generalize f 40 = z40
        generalize f 41 = z41
        clear hall hr hrow
        have hgs : g ≠ sb := by have := HROW.out.lt; omega
        go_wp2_with (first | (with_reducible refine wpList_load_row rfl 27 (.tmp 6) rfl g ?h1 27 (words nw).toArray (0, 0) _ P1.out.out Try.underlying27 rfl ?h2 ?_) | (with_reducible refine wpList_store_rowTo rfl 27 (.tmp 4) (.tmp 44) rfl rfl sb (words nw).toArray ?g1 ?g2 27 (words cur).toArray ?g0 ?g3 ?g4 ?g5 ?_))
        case h1 => rfl
        case h2 => exact w8_info _ HLN.out
        try case g1 => rfl
        try case g2 => rfl
        case g0 => exact (HROW.out.below P2.out HROW.out.lt).out
        case g3 => exact w8_info _ HLN.out
        case g4 => rw [words_size, words_size, HLN.out, hml]
        case g5 => exact wordsS_cells _
        go_roundw
        case rel => exact ⟨j + 1, by omega, by go_num, by rw [← HFS.out]; exact (HROW.out.below P2.out HROW.out.lt).setRow _, Go.Proofs.Ytdfgcjjaiggpkaa.Below.setRow (bthen HB.out P2.out) zs _⟩
        case measure => simp [intOf]; omega
    · have hd : decide (64 * (j : Int) < (ab.size : Int)) = false := decide_eq_false (by omega)
      have hj2 : j = ab.size / 64 := by omega
      obtain ⟨q, hq⟩ : ∃ q, Is q (shaL text.data.toList) := ⟨_, Is.of _⟩
      have HQ := Lib.hid hq
      have HQ2 := Lib.hid (show Is q (bytesS (mixK G ab.data.toList j) 8) from by
        have h := hq
        unfold shaL at h
        rwa [← HA.out.out, ← (Is.self ab).size, ← hj2, ← HG.out] at h)
      clear hq hrow
      generalize mixK G ab.data.toList j = V at HROW HLC HQ2 hml
      clear hj2
      go_wp2_with fail
      obtain ⟨wo, hwo⟩ : ∃ wo : World, wo = wr := ⟨_, rfl⟩
      subst hwo
      go_loopw [8, 45] (fun v i wr => ∃ (k : Nat) (o : ByteArray), k ≤ 8 ∧ i = .int .i64 k ∧ v = .string o ∧ Is o (bytesS V k) ∧ Below wo.heap.size wo wr) (fun _ i _ => 8 - (intOf i).toNat)
      case atStart => exact ⟨0, _, by omega, rfl, rfl, Is.of [], Below.refl _ _⟩
      case round =>
        obtain ⟨k, o, hk, rfl, rfl, ho, hb⟩ := hrel
        have HO := Lib.hid ho
        have HBO := Lib.hid hb
        have hoz : o.size = 4 * k := by rw [ho.size, bytesS_length]
        rcases Nat.lt_or_ge k 8 with hlt | hge
        · have c0 := (HROW.out.below hb HROW.out.lt).cell (wordsS_at V k (by rw [hml]; exact hlt))
          have HBS := Lib.hid (bytesS_succ V k)
          generalize V.getD k 0 = x at c0 HBS
          have d5 : (k : Int) < 8 := by omega
          have hoz2 : o.size ≤ 32 := by omega
          clear ho hb hoz
          go_wp2_with fail
          refine (RHigh_walk _ 4 _).mono ?_
          rintro e w5 ⟨r, rfl, hr, hb5⟩
          have hrz : r.size = 4 := by rw [hr.size, highL_length]; rfl
          have hov2 : ¬ 9223372036854775807 < o.size + r.size := by omega
          have HR := Lib.hid hr
          have HB5 := Lib.hid (bthen HBO.out hb5)
          clear hr hrz hb5
          go_wp2_with fail
          go_roundw
          case rel => exact ⟨k + 1, o ++ r, by omega, by go_num, rfl, by rw [HBS.out]; exact HO.out.append HR.out, HB5.out⟩
          case measure => simp [intOf]; omega
        · obtain rfl : k = 8 := by omega
          clear ho hb hoz
          go_wp2_with fail
          refine (ShaSum_walk text (by omega) q HQ.out _).mono ?_
          rintro e w5 ⟨rfl, hb5⟩
          have HB5 := Lib.hid (bthen HBO.out hb5)
          have hq1 : seq o q = true := seq_is HO.out HQ2.out
          clear hb5
          go_wp2_with fail
          go_ret
          exact ⟨rfl, HB.out.trans (HB5.out.mono zw)⟩

theorem state_equal (A : List (BitVec 32)) (h : A.length = 8) (wx : World) : (Op.equalIn 10000 27 (.agg (words A).toArray) (.agg (words A).toArray)).run Try.prog wx = .ok true wx := by
  have := equal_words 8 Try.underlying27 A A h h wx
  rw [decide_eq_true rfl] at this
  exact this
theorem state_load {w : World} {g : Nat} {l : List (BitVec 32)} {T : TypeId} (h : RowAt w g (words l).toArray T (0, 0)) (hl : l.length = 8) : (Instr.loadAt 27 (.pointer (some ⟨g, 0, none⟩))).run Try.prog w = .ok (.agg (words l).toArray) w :=
  run_loadAt_mid w g 0 27 (words l) _ (RowAt.mid (xs := []) (ys := []) (by simpa using h)) Try.underlying27 rfl (w8_info' _ hl)
theorem zero_equal (wx : World) : (Op.equalIn 10000 27 (.agg (words zero8).toArray) (.agg #[.int .u32 0, .int .u32 0, .int .u32 0, .int .u32 0, .int .u32 0, .int .u32 0, .int .u32 0, .int .u32 0])).run Try.prog wx = .ok true wx := by kernel_rfl
set_option maxRecDepth 100000 in
set_option maxHeartbeats 4000000 in
theorem ShaAdds_w (st : List (BitVec 32)) (hst : st.length = 8) (bl : List UInt8) (hbl : bl.length = 64) (w : World) :
    Calls Try.prog 8 #[.agg (words st).toArray, .agg (cells bl).toArray] w fun e w' => e = .returned (.bool true) ∧ Below w.heap.size w w' := by
  have hcz : (cells bl).toArray.size = 64 := by simp [cells_length, hbl]
  have HL := Lib.hid hst
  have HBL := Lib.hid hbl
  obtain ⟨A, hA⟩ : ∃ A, A = mixS st bl := ⟨_, rfl⟩
  have HA := Lib.hid hA
  have HAL := Lib.hid (show A.length = 8 by rw [hA, mixS_length]; exact hst)
  clear hst hbl hA
  go_enter Try.func8, Try.ntmps8
  go_wp2_with fail
  refine (awake02 _).mono ?_
  rintro e w1 ⟨rfl, hb1⟩
  have hbo : Below w.heap.size w ((w.alloc (.cells (words st).toArray 27)).alloc (.cells (cells bl).toArray 48)) := ((Below.refl _ _).alloc (Nat.le_refl _) _).alloc (by simp) _
  have HB1 := Lib.hid (hbo.trans (hb1.mono (by simp; omega)))
  have HR1 := Lib.hid (((RowAt.new w (words st).toArray 27 (0, 0)).alloc (.cells (cells bl).toArray 48)).below hb1 (by simp; omega))
  have hk1 := (RowAt.new (w.alloc (.cells (words st).toArray 27)) (cells bl).toArray 48 (0, 0)).below hb1 (by simp)
  rw [show (w.alloc (.cells (words st).toArray 27)).heap.size = w.heap.size + 1 by simp] at hk1
  have HK1 := Lib.hid hk1
  clear hb1 hcz hk1 hbo
  go_upto_region 4 with (first | (with_reducible refine wpList_load_row rfl 27 (.tmp 2) rfl w.heap.size ?h1 27 (words st).toArray (0, 0) _ HR1.out.out Try.underlying27 rfl ?h2 ?_) | (with_reducible refine wpList_store_rowTo rfl 27 (.tmp 5) (.tmp 16) rfl rfl w1.heap.size (words st).toArray ?g1 ?g2 27 (words zero8).toArray ?g0 ?g3 ?g4 ?g5 ?_))
  try case h1 => rfl
  case h2 => exact w8_info _ HL.out
  try case g1 => rfl
  try case g2 => rfl
  case g0 => exact (RowAt.new w1 _ _ _).out
  case g3 => exact w8_info _ HL.out
  case g4 => rw [words_size, words_size, HL.out]; rfl
  case g5 => exact wordsS_cells _
  rw [World.setRow_alloc_new]
  have HO2 := Lib.hid (RowAt.new w1 (words st).toArray 27 (0, 0))
  have HR2 := Lib.hid (HR1.out.alloc (.cells (words st).toArray 27))
  have hk2 := HK1.out.alloc (.cells (words st).toArray 27)
  have HB2 := Lib.hid (below_alloc' HB1.out (.cells (words st).toArray 27))
  generalize w1.alloc (.cells (words st).toArray 27) = w2 at HO2 HR2 hk2 HB2 ⊢
  generalize w1.heap.size = ob at HO2 ⊢
  generalize hsb : w.heap.size = sb at HR2 hk2 HB2 ⊢
  have HSB := Lib.hid hsb
  have HCV := Lib.hid (show ∀ w', Below w2.heap.size w2 w' → (convert 49 9 (.slice (some ⟨sb + 1, 0, none⟩) 64 64)).run Try.prog w' = .ok (.string ⟨bl.toArray⟩) w' from
    fun w' hb => run_str w' 49 5 Try.underlying49 Try.underlying5 9 Try.underlying9 (sb + 1) 64 64 _ _ _ bl (hk2.below hb hk2.lt).out HBL.out (List.take_of_length_le (by rw [cells_length, HBL.out]; exact Nat.le_refl _)))
  have HCW := Lib.hid (show ∀ w', Below w2.heap.size w2 w' → (convert 49 9 (.slice (some ⟨sb + 1, 0, none⟩) 63 64)).run Try.prog w' = .ok (.string ⟨(bl.take 63).toArray⟩) w' from
    fun w' hb => run_str w' 49 5 Try.underlying49 Try.underlying5 9 Try.underlying9 (sb + 1) 63 64 _ _ _ (bl.take 63) (hk2.below hb hk2.lt).out (by rw [List.length_take, HBL.out]; rfl) (by unfold cells; rw [List.map_take]))
  have hK := Is.of bl
  have hK3 := Is.of (bl.take 63)
  generalize ByteArray.mk bl.toArray = K at hK HCV
  generalize ByteArray.mk (bl.take 63).toArray = K3 at hK3 HCW
  have HKZ := Lib.hid (show K.size = 64 by rw [hK.size]; exact HBL.out)
  have HK3Z := Lib.hid (show K3.size ≠ 64 by rw [hK3.size, List.length_take, HBL.out]; decide)
  obtain ⟨K4, hK4⟩ : ∃ K4, K4 = K ++ ⟨#[0]⟩ := ⟨_, rfl⟩
  have HK4Z := Lib.hid (show K4.size ≠ 64 by rw [hK4, ByteArray.size_append, HKZ.out]; decide)
  have HK4 := Lib.hid hK4
  have hov : ¬ 9223372036854775807 < K.size + 1 := by rw [HKZ.out]; decide
  have HAK := Lib.hid (show A = mixS st K.data.toList by rw [HA.out, hK.out])
  clear hk2 hK hK3 hK4 HR1 HK1 HB1 hsb HA
  go_wp2_with fail
  refine region_table (by kernel_rfl) [18, 19, 20, 21, 17, 22, 23, 6, 7]
    (fun i x_ => match i with
      | 0 => x_ = .agg (words st).toArray
      | 1 => x_ = .slice (some ⟨sb + 1, 0, none⟩) 64 64
      | 2 => x_ = .string K
      | 3 => x_ = .tuple #[.agg (words A).toArray, .int .i64 (0)]
      | 4 => x_ = .tuple #[.agg (words A).toArray, .int .i64 (0)]
      | 5 => x_ = .agg (words A).toArray
      | 6 => x_ = .int .i64 (0)
      | 7 => True
      | 8 => True
      | 9 => x_ = .int .i64 (0)
      | _ => True) (fun L sl w' => Below w2.heap.size w2 w' ∧ (L 7 = true → ∃ g, sl 6 = .pointer (some ⟨g, 0, none⟩) ∧ w2.heap.size ≤ g ∧ RowAt w' g (words (if L 8 = true then A else zero8)).toArray 27 (0, 0)) ∧ (L 8 = true → L 7 = true)) (by kernel_rfl) (by kernel_rfl) rfl (by kernel_rfl) (⟨(Below.refl _ _).drew, (fun h => by cases h), (fun h => by cases h)⟩) ?_ ?_
  · refine StepsOk.cons ?_ (StepsOk.cons ?_ (StepsOk.cons ?_ (StepsOk.cons ?_ (StepsOk.cons ?_ (StepsOk.cons ?_ (StepsOk.cons ?_ (StepsOk.cons ?_ (StepsOk.cons ?_ (StepsOk.cons ?_ StepsOk.nil)))))))))
    · intro L a w4 Kx hl hsz hs ht hr he hK
      refine step_plain rfl ?_
      have h2 : a.tmps.getD 2 undef = .pointer (some ⟨sb, 0, none⟩) := (hs 2 (by decide)).trans rfl
      refine wp_load_row 27 _ rfl sb h2 27 (words st).toArray (0, 0) _ (HR2.out.below hr.1 HR2.out.lt).out Try.underlying27 rfl (w8_info _ HL.out) (hK _ _ rfl (by simpa [slot_ne] using hr))
    · intro L a w4 Kx hl hsz hs ht hr he hK
      refine step_plain rfl ?_
      have h3 : a.tmps.getD 3 undef = .pointer (some ⟨sb + 1, 0, none⟩) := (hs 3 (by decide)).trans rfl
      go_simp
      exact hK _ _ rfl (by simpa [slot_ne] using hr)
    · intro L a w4 Kx hl hsz hs ht hr he hK
      refine step_plain rfl ?_
      have h19 : a.tmps.getD 19 undef = .slice (some ⟨sb + 1, 0, none⟩) 64 64 := ht 1 (he 1 (by kernel_rfl)) 19 rfl
      have hcv := HCV.out w4 hr.1
      go_simp
      exact hK _ _ rfl (by simpa [slot_ne] using hr)
    · intro L a w4 Kx hl hsz hs ht hr he hK
      refine step_plain rfl ?_
      have h18 : a.tmps.getD 18 undef = .agg (words st).toArray := ht 0 (he 0 (by kernel_rfl)) 18 rfl
      have h20 : a.tmps.getD 20 undef = .string K := ht 2 (he 2 (by kernel_rfl)) 20 rfl
      go_simp
      refine (Mix_as st HL.out K HKZ.out A HAK.out _).mono ?_
      rintro e w5 ⟨rfl, hb5⟩
      exact hK _ _ rfl (by simpa [slot_ne] using (show Below w2.heap.size w2 w5 ∧ (L 7 = true → ∃ g, slot a 6 = .pointer (some ⟨g, 0, none⟩) ∧ w2.heap.size ≤ g ∧ RowAt w5 g (words (if L 8 = true then A else zero8)).toArray 27 (0, 0)) ∧ (L 8 = true → L 7 = true) from ⟨bthen hr.1 hb5, fun h => by obtain ⟨g, h3, hg, hrow⟩ := hr.2.1 h; exact ⟨g, h3, hg, hrow.below hb5 hrow.lt⟩, hr.2.2⟩))
    · intro L a w4 Kx hl hsz hs ht hr he hK
      refine step_plain rfl ?_
      have h21 : a.tmps.getD 21 undef = .tuple #[.agg (words A).toArray, .int .i64 (0)] := ht 3 (he 3 (by kernel_rfl)) 21 rfl
      go_simp
      exact hK _ _ rfl (by simpa [slot_ne] using hr)
    · intro L a w4 Kx hl hsz hs ht hr he hK
      refine step_plain rfl ?_
      have h17 : a.tmps.getD 17 undef = .tuple #[.agg (words A).toArray, .int .i64 (0)] := ht 4 (he 4 (by kernel_rfl)) 17 rfl
      go_simp
      exact hK _ _ rfl (by simpa [slot_ne] using hr)
    · intro L a w4 Kx hl hsz hs ht hr he hK
      refine step_plain rfl ?_
      have h17 : a.tmps.getD 17 undef = .tuple #[.agg (words A).toArray, .int .i64 (0)] := ht 4 (he 4 (by kernel_rfl)) 17 rfl
      go_simp
      exact hK _ _ rfl (by simpa [slot_ne] using hr)
    · intro L a w4 Kx hl hsz hs ht hr he hK
      refine step_plain rfl ?_
      have hx : L 8 = false := by
        cases hy : L 8 with
        | false => rfl
        | true => have := hr.2.2 hy; rw [hl] at this; cases this
      go_simp
      refine hK _ _ trivial ⟨below_alloc' hr.1 _, fun _ => ⟨w4.heap.size, slot_out (by rw [hsz]; exact of_decide_eq_true (by kernel_rfl)), hr.1.size, ?_⟩, fun h => ?_⟩
      · show RowAt _ _ (words (if (L 8 || false) = true then _ else _)).toArray _ _
        rw [hx]
        exact RowAt.new w4 _ _ _
      · show (L 7 || true) = true
        rw [Bool.or_true]
    · intro L a w4 Kx hl hsz hs ht hr he hK
      refine step_plain rfl ?_
      have h22 : a.tmps.getD 22 undef = .agg (words A).toArray := ht 5 (he 5 (by kernel_rfl)) 22 rfl
      obtain ⟨g, h3, hg, hrow⟩ := hr.2.1 (he 7 (by kernel_rfl))
      rw [hl] at hrow
      refine wp_store_row 27 _ _ rfl g (words A).toArray h3 h22 27 _ hrow.out (w8_info _ HAL.out) (by rw [if_neg (by decide), words_size, words_size, HAL.out, zero8_length]) (wordsS_cells _) (hK _ _ trivial ⟨Go.Proofs.Ytdfgcjjaiggpkaa.Below.setRow hr.1 hg _, fun _ => ⟨g, h3, hg, ?_⟩, fun _ => ?_⟩)
      · show RowAt _ _ (words (if (L 8 || true) = true then _ else _)).toArray _ _
        rw [Bool.or_true, if_pos rfl]
        exact hrow.setRow _
      · show (L 7 || false) = true
        rw [he 7 (by kernel_rfl)]; rfl
    · intro L a w4 Kx hl hsz hs ht hr he hK
      refine step_plain rfl ?_
      have h23 : a.tmps.getD 23 undef = .int .i64 (0) := ht 6 (he 6 (by kernel_rfl)) 23 rfl
      go_simp
      exact hK _ _ rfl (by simpa [slot_ne] using hr)
  · intro f L w4 hf hall hr
    obtain ⟨wa, hwn⟩ : ∃ x : World, x = w4 := ⟨_, rfl⟩
    subst hwn
    obtain ⟨g6, h6, hg, hrow⟩ := hr.2.1 (hall 7 (by decide))
    rw [hall 8 (by decide), if_pos rfl] at hrow
    have h7 : f 7 = .int .i64 (0) := hf 9 (by decide) 7 rfl
    have P1 := Lib.hid hrow
    have P2 := Lib.hid hr.1
    simp only [List.foldl, Act.put, List.setIfInBounds_toArray, List.set_cons_zero, List.set_cons_succ]
    rw [h6, h7]
    clear hf h6 h7
    generalize f 18 = z18
    generalize f 19 = z19
    generalize f 20 = z20
    generalize f 21 = z21
    generalize f 17 = z17
    generalize f 22 = z22
    generalize f 23 = z23
    clear hall hr hrow
    go_wp2_with fail
    refine region_table (by kernel_rfl) [25, 26, 27, 28, 24, 29, 30, 8, 9]
      (fun i x_ => match i with
        | 0 => x_ = .agg (words st).toArray
        | 1 => x_ = .slice (some ⟨sb + 1, 0, none⟩) 64 64
        | 2 => x_ = .string K
        | 3 => x_ = .tuple #[.agg (words A).toArray, .int .i64 (0)]
        | 4 => x_ = .tuple #[.agg (words A).toArray, .int .i64 (0)]
        | 5 => x_ = .agg (words A).toArray
        | 6 => x_ = .int .i64 (0)
        | 7 => True
        | 8 => True
        | 9 => x_ = .int .i64 (0)
        | _ => True) (fun L sl w' => Below wa.heap.size wa w' ∧ (L 7 = true → ∃ g, sl 8 = .pointer (some ⟨g, 0, none⟩) ∧ wa.heap.size ≤ g ∧ RowAt w' g (words (if L 8 = true then A else zero8)).toArray 27 (0, 0)) ∧ (L 8 = true → L 7 = true)) (by kernel_rfl) (by kernel_rfl) rfl (by kernel_rfl) (⟨(Below.refl _ _).drew, (fun h => by cases h), (fun h => by cases h)⟩) ?_ ?_
    · refine StepsOk.cons ?_ (StepsOk.cons ?_ (StepsOk.cons ?_ (StepsOk.cons ?_ (StepsOk.cons ?_ (StepsOk.cons ?_ (StepsOk.cons ?_ (StepsOk.cons ?_ (StepsOk.cons ?_ (StepsOk.cons ?_ StepsOk.nil)))))))))
      · intro L a w4 Kx hl hsz hs ht hr he hK
        refine step_plain rfl ?_
        have h5 : a.tmps.getD 5 undef = .pointer (some ⟨ob, 0, none⟩) := (hs 5 (by decide)).trans rfl
        refine wp_load_row 27 _ rfl ob h5 27 (words st).toArray (0, 0) _ (HO2.out.below (bthen P2.out hr.1) HO2.out.lt).out Try.underlying27 rfl (w8_info _ HL.out) (hK _ _ rfl (by simpa [slot_ne] using hr))
      · intro L a w4 Kx hl hsz hs ht hr he hK
        refine step_plain rfl ?_
        have h3 : a.tmps.getD 3 undef = .pointer (some ⟨sb + 1, 0, none⟩) := (hs 3 (by decide)).trans rfl
        go_simp
        exact hK _ _ rfl (by simpa [slot_ne] using hr)
      · intro L a w4 Kx hl hsz hs ht hr he hK
        refine step_plain rfl ?_
        have h26 : a.tmps.getD 26 undef = .slice (some ⟨sb + 1, 0, none⟩) 64 64 := ht 1 (he 1 (by kernel_rfl)) 26 rfl
        have hcv := HCV.out w4 (bthen P2.out hr.1)
        go_simp
        exact hK _ _ rfl (by simpa [slot_ne] using hr)
      · intro L a w4 Kx hl hsz hs ht hr he hK
        refine step_plain rfl ?_
        have h25 : a.tmps.getD 25 undef = .agg (words st).toArray := ht 0 (he 0 (by kernel_rfl)) 25 rfl
        have h27 : a.tmps.getD 27 undef = .string K := ht 2 (he 2 (by kernel_rfl)) 27 rfl
        go_simp
        refine (Mix_as st HL.out K HKZ.out A HAK.out _).mono ?_
        rintro e w5 ⟨rfl, hb5⟩
        exact hK _ _ rfl (by simpa [slot_ne] using (show Below wa.heap.size wa w5 ∧ (L 7 = true → ∃ g, slot a 8 = .pointer (some ⟨g, 0, none⟩) ∧ wa.heap.size ≤ g ∧ RowAt w5 g (words (if L 8 = true then A else zero8)).toArray 27 (0, 0)) ∧ (L 8 = true → L 7 = true) from ⟨bthen hr.1 hb5, fun h => by obtain ⟨g, h3, hg, hrow⟩ := hr.2.1 h; exact ⟨g, h3, hg, hrow.below hb5 hrow.lt⟩, hr.2.2⟩))
      · intro L a w4 Kx hl hsz hs ht hr he hK
        refine step_plain rfl ?_
        have h28 : a.tmps.getD 28 undef = .tuple #[.agg (words A).toArray, .int .i64 (0)] := ht 3 (he 3 (by kernel_rfl)) 28 rfl
        go_simp
        exact hK _ _ rfl (by simpa [slot_ne] using hr)
      · intro L a w4 Kx hl hsz hs ht hr he hK
        refine step_plain rfl ?_
        have h24 : a.tmps.getD 24 undef = .tuple #[.agg (words A).toArray, .int .i64 (0)] := ht 4 (he 4 (by kernel_rfl)) 24 rfl
        go_simp
        exact hK _ _ rfl (by simpa [slot_ne] using hr)
      · intro L a w4 Kx hl hsz hs ht hr he hK
        refine step_plain rfl ?_
        have h24 : a.tmps.getD 24 undef = .tuple #[.agg (words A).toArray, .int .i64 (0)] := ht 4 (he 4 (by kernel_rfl)) 24 rfl
        go_simp
        exact hK _ _ rfl (by simpa [slot_ne] using hr)
      · intro L a w4 Kx hl hsz hs ht hr he hK
        refine step_plain rfl ?_
        have hx : L 8 = false := by
          cases hy : L 8 with
          | false => rfl
          | true => have := hr.2.2 hy; rw [hl] at this; cases this
        go_simp
        refine hK _ _ trivial ⟨below_alloc' hr.1 _, fun _ => ⟨w4.heap.size, slot_out (by rw [hsz]; exact of_decide_eq_true (by kernel_rfl)), hr.1.size, ?_⟩, fun h => ?_⟩
        · show RowAt _ _ (words (if (L 8 || false) = true then _ else _)).toArray _ _
          rw [hx]
          exact RowAt.new w4 _ _ _
        · show (L 7 || true) = true
          rw [Bool.or_true]
      · intro L a w4 Kx hl hsz hs ht hr he hK
        refine step_plain rfl ?_
        have h29 : a.tmps.getD 29 undef = .agg (words A).toArray := ht 5 (he 5 (by kernel_rfl)) 29 rfl
        obtain ⟨g, h3, hg, hrow⟩ := hr.2.1 (he 7 (by kernel_rfl))
        rw [hl] at hrow
        refine wp_store_row 27 _ _ rfl g (words A).toArray h3 h29 27 _ hrow.out (w8_info _ HAL.out) (by rw [if_neg (by decide), words_size, words_size, HAL.out, zero8_length]) (wordsS_cells _) (hK _ _ trivial ⟨Go.Proofs.Ytdfgcjjaiggpkaa.Below.setRow hr.1 hg _, fun _ => ⟨g, h3, hg, ?_⟩, fun _ => ?_⟩)
        · show RowAt _ _ (words (if (L 8 || true) = true then _ else _)).toArray _ _
          rw [Bool.or_true, if_pos rfl]
          exact hrow.setRow _
        · show (L 7 || false) = true
          rw [he 7 (by kernel_rfl)]; rfl
      · intro L a w4 Kx hl hsz hs ht hr he hK
        refine step_plain rfl ?_
        have h30 : a.tmps.getD 30 undef = .int .i64 (0) := ht 6 (he 6 (by kernel_rfl)) 30 rfl
        go_simp
        exact hK _ _ rfl (by simpa [slot_ne] using hr)
    · intro f L w4 hf hall hr
      obtain ⟨wb, hwn⟩ : ∃ x : World, x = w4 := ⟨_, rfl⟩
      subst hwn
      obtain ⟨g8, h8, hg, hrow⟩ := hr.2.1 (hall 7 (by decide))
      rw [hall 8 (by decide), if_pos rfl] at hrow
      have h9 : f 9 = .int .i64 (0) := hf 9 (by decide) 9 rfl
      have P1b := Lib.hid hrow
      have P2b := Lib.hid hr.1
      simp only [List.foldl, Act.put, List.setIfInBounds_toArray, List.set_cons_zero, List.set_cons_succ]
      rw [h8, h9]
      clear hf h8 h9
      generalize f 25 = z25
      generalize f 26 = z26
      generalize f 27 = z27
      generalize f 28 = z28
      generalize f 24 = z24
      generalize f 29 = z29
      generalize f 30 = z30
      clear hall hr hrow
      go_wp2_with fail
      refine region_table (by kernel_rfl) [32, 33, 34, 35, 31, 36, 37, 10, 11]
        (fun i x_ => match i with
          | 0 => x_ = .agg (words st).toArray
          | 1 => x_ = .slice (some ⟨sb + 1, 0, none⟩) 63 64
          | 2 => x_ = .string K3
          | 3 => x_ = .tuple #[.agg (words zero8).toArray, .int .i64 (5)]
          | 4 => x_ = .tuple #[.agg (words zero8).toArray, .int .i64 (5)]
          | 5 => x_ = .agg (words zero8).toArray
          | 6 => x_ = .int .i64 (5)
          | 7 => True
          | 8 => True
          | 9 => x_ = .int .i64 (5)
          | _ => True) (fun L sl w' => Below wb.heap.size wb w' ∧ (L 7 = true → ∃ g, sl 10 = .pointer (some ⟨g, 0, none⟩) ∧ wb.heap.size ≤ g ∧ RowAt w' g (words (if L 8 = true then zero8 else zero8)).toArray 27 (0, 0)) ∧ (L 8 = true → L 7 = true)) (by kernel_rfl) (by kernel_rfl) rfl (by kernel_rfl) (⟨(Below.refl _ _).drew, (fun h => by cases h), (fun h => by cases h)⟩) ?_ ?_
      · refine StepsOk.cons ?_ (StepsOk.cons ?_ (StepsOk.cons ?_ (StepsOk.cons ?_ (StepsOk.cons ?_ (StepsOk.cons ?_ (StepsOk.cons ?_ (StepsOk.cons ?_ (StepsOk.cons ?_ (StepsOk.cons ?_ StepsOk.nil)))))))))
        · intro L a w4 Kx hl hsz hs ht hr he hK
          refine step_plain rfl ?_
          have h2 : a.tmps.getD 2 undef = .pointer (some ⟨sb, 0, none⟩) := (hs 2 (by decide)).trans rfl
          refine wp_load_row 27 _ rfl sb h2 27 (words st).toArray (0, 0) _ (HR2.out.below (bthen P2.out (bthen P2b.out hr.1)) HR2.out.lt).out Try.underlying27 rfl (w8_info _ HL.out) (hK _ _ rfl (by simpa [slot_ne] using hr))
        · intro L a w4 Kx hl hsz hs ht hr he hK
          refine step_plain rfl ?_
          have h3 : a.tmps.getD 3 undef = .pointer (some ⟨sb + 1, 0, none⟩) := (hs 3 (by decide)).trans rfl
          go_simp
          exact hK _ _ rfl (by simpa [slot_ne] using hr)
        · intro L a w4 Kx hl hsz hs ht hr he hK
          refine step_plain rfl ?_
          have h33 : a.tmps.getD 33 undef = .slice (some ⟨sb + 1, 0, none⟩) 63 64 := ht 1 (he 1 (by kernel_rfl)) 33 rfl
          have hcv := HCW.out w4 (bthen P2.out (bthen P2b.out hr.1))
          go_simp
          exact hK _ _ rfl (by simpa [slot_ne] using hr)
        · intro L a w4 Kx hl hsz hs ht hr he hK
          refine step_plain rfl ?_
          have h32 : a.tmps.getD 32 undef = .agg (words st).toArray := ht 0 (he 0 (by kernel_rfl)) 32 rfl
          have h34 : a.tmps.getD 34 undef = .string K3 := ht 2 (he 2 (by kernel_rfl)) 34 rfl
          go_simp
          refine (Mix_no st HL.out K3 HK3Z.out _).mono ?_
          rintro e w5 ⟨rfl, hb5⟩
          exact hK _ _ rfl (by simpa [slot_ne] using (show Below wb.heap.size wb w5 ∧ (L 7 = true → ∃ g, slot a 10 = .pointer (some ⟨g, 0, none⟩) ∧ wb.heap.size ≤ g ∧ RowAt w5 g (words (if L 8 = true then zero8 else zero8)).toArray 27 (0, 0)) ∧ (L 8 = true → L 7 = true) from ⟨bthen hr.1 hb5, fun h => by obtain ⟨g, h3, hg, hrow⟩ := hr.2.1 h; exact ⟨g, h3, hg, hrow.below hb5 hrow.lt⟩, hr.2.2⟩))
        · intro L a w4 Kx hl hsz hs ht hr he hK
          refine step_plain rfl ?_
          have h35 : a.tmps.getD 35 undef = .tuple #[.agg (words zero8).toArray, .int .i64 (5)] := ht 3 (he 3 (by kernel_rfl)) 35 rfl
          go_simp
          exact hK _ _ rfl (by simpa [slot_ne] using hr)
        · intro L a w4 Kx hl hsz hs ht hr he hK
          refine step_plain rfl ?_
          have h31 : a.tmps.getD 31 undef = .tuple #[.agg (words zero8).toArray, .int .i64 (5)] := ht 4 (he 4 (by kernel_rfl)) 31 rfl
          go_simp
          exact hK _ _ rfl (by simpa [slot_ne] using hr)
        · intro L a w4 Kx hl hsz hs ht hr he hK
          refine step_plain rfl ?_
          have h31 : a.tmps.getD 31 undef = .tuple #[.agg (words zero8).toArray, .int .i64 (5)] := ht 4 (he 4 (by kernel_rfl)) 31 rfl
          go_simp
          exact hK _ _ rfl (by simpa [slot_ne] using hr)
        · intro L a w4 Kx hl hsz hs ht hr he hK
          refine step_plain rfl ?_
          have hx : L 8 = false := by
            cases hy : L 8 with
            | false => rfl
            | true => have := hr.2.2 hy; rw [hl] at this; cases this
          go_simp
          refine hK _ _ trivial ⟨below_alloc' hr.1 _, fun _ => ⟨w4.heap.size, slot_out (by rw [hsz]; exact of_decide_eq_true (by kernel_rfl)), hr.1.size, ?_⟩, fun h => ?_⟩
          · show RowAt _ _ (words (if (L 8 || false) = true then _ else _)).toArray _ _
            rw [hx]
            exact RowAt.new w4 _ _ _
          · show (L 7 || true) = true
            rw [Bool.or_true]
        · intro L a w4 Kx hl hsz hs ht hr he hK
          refine step_plain rfl ?_
          have h36 : a.tmps.getD 36 undef = .agg (words zero8).toArray := ht 5 (he 5 (by kernel_rfl)) 36 rfl
          obtain ⟨g, h3, hg, hrow⟩ := hr.2.1 (he 7 (by kernel_rfl))
          rw [hl] at hrow
          refine wp_store_row 27 _ _ rfl g (words zero8).toArray h3 h36 27 _ hrow.out (w8_info _ rfl) (by rw [if_neg (by decide), words_size]) (wordsS_cells _) (hK _ _ trivial ⟨Go.Proofs.Ytdfgcjjaiggpkaa.Below.setRow hr.1 hg _, fun _ => ⟨g, h3, hg, ?_⟩, fun _ => ?_⟩)
          · show RowAt _ _ (words (if (L 8 || true) = true then _ else _)).toArray _ _
            rw [Bool.or_true, if_pos rfl]
            exact hrow.setRow _
          · show (L 7 || false) = true
            rw [he 7 (by kernel_rfl)]; rfl
        · intro L a w4 Kx hl hsz hs ht hr he hK
          refine step_plain rfl ?_
          have h37 : a.tmps.getD 37 undef = .int .i64 (5) := ht 6 (he 6 (by kernel_rfl)) 37 rfl
          go_simp
          exact hK _ _ rfl (by simpa [slot_ne] using hr)
      · intro f L w4 hf hall hr
        obtain ⟨wc, hwn⟩ : ∃ x : World, x = w4 := ⟨_, rfl⟩
        subst hwn
        obtain ⟨g10, h10, hg, hrow⟩ := hr.2.1 (hall 7 (by decide))
        rw [hall 8 (by decide), if_pos rfl] at hrow
        have h11 : f 11 = .int .i64 (5) := hf 9 (by decide) 11 rfl
        have P1c := Lib.hid hrow
        have P2c := Lib.hid hr.1
        simp only [List.foldl, Act.put, List.setIfInBounds_toArray, List.set_cons_zero, List.set_cons_succ]
        rw [h10, h11]
        clear hf h10 h11
        generalize f 32 = z32
        generalize f 33 = z33
        generalize f 34 = z34
        generalize f 35 = z35
        generalize f 31 = z31
        generalize f 36 = z36
        generalize f 37 = z37
        clear hall hr hrow
        go_wp2_with fail
        refine region_table (by kernel_rfl) [39, 40, 41, 42, 43, 38, 44, 45, 12, 13]
          (fun i x_ => match i with
            | 0 => x_ = .agg (words st).toArray
            | 1 => x_ = .slice (some ⟨sb + 1, 0, none⟩) 64 64
            | 2 => x_ = .string K
            | 3 => x_ = .string K4
            | 4 => x_ = .tuple #[.agg (words zero8).toArray, .int .i64 (5)]
            | 5 => x_ = .tuple #[.agg (words zero8).toArray, .int .i64 (5)]
            | 6 => x_ = .agg (words zero8).toArray
            | 7 => x_ = .int .i64 (5)
            | 8 => True
            | 9 => True
            | 10 => x_ = .int .i64 (5)
            | _ => True) (fun L sl w' => Below wc.heap.size wc w' ∧ (L 8 = true → ∃ g, sl 12 = .pointer (some ⟨g, 0, none⟩) ∧ wc.heap.size ≤ g ∧ RowAt w' g (words (if L 9 = true then zero8 else zero8)).toArray 27 (0, 0)) ∧ (L 9 = true → L 8 = true)) (by kernel_rfl) (by kernel_rfl) rfl (by kernel_rfl) (⟨(Below.refl _ _).drew, (fun h => by cases h), (fun h => by cases h)⟩) ?_ ?_
        · refine StepsOk.cons ?_ (StepsOk.cons ?_ (StepsOk.cons ?_ (StepsOk.cons ?_ (StepsOk.cons ?_ (StepsOk.cons ?_ (StepsOk.cons ?_ (StepsOk.cons ?_ (StepsOk.cons ?_ (StepsOk.cons ?_ (StepsOk.cons ?_ StepsOk.nil))))))))))
          · intro L a w4 Kx hl hsz hs ht hr he hK
            refine step_plain rfl ?_
            have h2 : a.tmps.getD 2 undef = .pointer (some ⟨sb, 0, none⟩) := (hs 2 (by decide)).trans rfl
            refine wp_load_row 27 _ rfl sb h2 27 (words st).toArray (0, 0) _ (HR2.out.below (bthen P2.out (bthen P2b.out (bthen P2c.out hr.1))) HR2.out.lt).out Try.underlying27 rfl (w8_info _ HL.out) (hK _ _ rfl (by simpa [slot_ne] using hr))
          · intro L a w4 Kx hl hsz hs ht hr he hK
            refine step_plain rfl ?_
            have h3 : a.tmps.getD 3 undef = .pointer (some ⟨sb + 1, 0, none⟩) := (hs 3 (by decide)).trans rfl
            go_simp
            exact hK _ _ rfl (by simpa [slot_ne] using hr)
          · intro L a w4 Kx hl hsz hs ht hr he hK
            refine step_plain rfl ?_
            have h40 : a.tmps.getD 40 undef = .slice (some ⟨sb + 1, 0, none⟩) 64 64 := ht 1 (he 1 (by kernel_rfl)) 40 rfl
            have hcv := HCV.out w4 (bthen P2.out (bthen P2b.out (bthen P2c.out hr.1)))
            go_simp
            exact hK _ _ rfl (by simpa [slot_ne] using hr)
          · intro L a w4 Kx hl hsz hs ht hr he hK
            refine step_plain rfl ?_
            have h41 : a.tmps.getD 41 undef = .string K := ht 2 (he 2 (by kernel_rfl)) 41 rfl
            go_simp
            exact hK _ _ (congrArg Value.string HK4.out.symm) (by simpa [slot_ne] using hr)
          · intro L a w4 Kx hl hsz hs ht hr he hK
            refine step_plain rfl ?_
            have h39 : a.tmps.getD 39 undef = .agg (words st).toArray := ht 0 (he 0 (by kernel_rfl)) 39 rfl
            have h42 : a.tmps.getD 42 undef = .string K4 := ht 3 (he 3 (by kernel_rfl)) 42 rfl
            go_simp
            refine (Mix_no st HL.out K4 HK4Z.out _).mono ?_
            rintro e w5 ⟨rfl, hb5⟩
            exact hK _ _ rfl (by simpa [slot_ne] using (show Below wc.heap.size wc w5 ∧ (L 8 = true → ∃ g, slot a 12 = .pointer (some ⟨g, 0, none⟩) ∧ wc.heap.size ≤ g ∧ RowAt w5 g (words (if L 9 = true then zero8 else zero8)).toArray 27 (0, 0)) ∧ (L 9 = true → L 8 = true) from ⟨bthen hr.1 hb5, fun h => by obtain ⟨g, h3, hg, hrow⟩ := hr.2.1 h; exact ⟨g, h3, hg, hrow.below hb5 hrow.lt⟩, hr.2.2⟩))
          · intro L a w4 Kx hl hsz hs ht hr he hK
            refine step_plain rfl ?_
            have h43 : a.tmps.getD 43 undef = .tuple #[.agg (words zero8).toArray, .int .i64 (5)] := ht 4 (he 4 (by kernel_rfl)) 43 rfl
            go_simp
            exact hK _ _ rfl (by simpa [slot_ne] using hr)
          · intro L a w4 Kx hl hsz hs ht hr he hK
            refine step_plain rfl ?_
            have h38 : a.tmps.getD 38 undef = .tuple #[.agg (words zero8).toArray, .int .i64 (5)] := ht 5 (he 5 (by kernel_rfl)) 38 rfl
            go_simp
            exact hK _ _ rfl (by simpa [slot_ne] using hr)
          · intro L a w4 Kx hl hsz hs ht hr he hK
            refine step_plain rfl ?_
            have h38 : a.tmps.getD 38 undef = .tuple #[.agg (words zero8).toArray, .int .i64 (5)] := ht 5 (he 5 (by kernel_rfl)) 38 rfl
            go_simp
            exact hK _ _ rfl (by simpa [slot_ne] using hr)
          · intro L a w4 Kx hl hsz hs ht hr he hK
            refine step_plain rfl ?_
            have hx : L 9 = false := by
              cases hy : L 9 with
              | false => rfl
              | true => have := hr.2.2 hy; rw [hl] at this; cases this
            go_simp
            refine hK _ _ trivial ⟨below_alloc' hr.1 _, fun _ => ⟨w4.heap.size, slot_out (by rw [hsz]; exact of_decide_eq_true (by kernel_rfl)), hr.1.size, ?_⟩, fun h => ?_⟩
            · show RowAt _ _ (words (if (L 9 || false) = true then _ else _)).toArray _ _
              rw [hx]
              exact RowAt.new w4 _ _ _
            · show (L 8 || true) = true
              rw [Bool.or_true]
          · intro L a w4 Kx hl hsz hs ht hr he hK
            refine step_plain rfl ?_
            have h44 : a.tmps.getD 44 undef = .agg (words zero8).toArray := ht 6 (he 6 (by kernel_rfl)) 44 rfl
            obtain ⟨g, h3, hg, hrow⟩ := hr.2.1 (he 8 (by kernel_rfl))
            rw [hl] at hrow
            refine wp_store_row 27 _ _ rfl g (words zero8).toArray h3 h44 27 _ hrow.out (w8_info _ rfl) (by rw [if_neg (by decide), words_size]) (wordsS_cells _) (hK _ _ trivial ⟨Go.Proofs.Ytdfgcjjaiggpkaa.Below.setRow hr.1 hg _, fun _ => ⟨g, h3, hg, ?_⟩, fun _ => ?_⟩)
            · show RowAt _ _ (words (if (L 9 || true) = true then _ else _)).toArray _ _
              rw [Bool.or_true, if_pos rfl]
              exact hrow.setRow _
            · show (L 8 || false) = true
              rw [he 8 (by kernel_rfl)]; rfl
          · intro L a w4 Kx hl hsz hs ht hr he hK
            refine step_plain rfl ?_
            have h45 : a.tmps.getD 45 undef = .int .i64 (5) := ht 7 (he 7 (by kernel_rfl)) 45 rfl
            go_simp
            exact hK _ _ rfl (by simpa [slot_ne] using hr)
        · intro f L w4 hf hall hr
          obtain ⟨wd, hwn⟩ : ∃ x : World, x = w4 := ⟨_, rfl⟩
          subst hwn
          obtain ⟨g12, h12, hg, hrow⟩ := hr.2.1 (hall 8 (by decide))
          rw [hall 9 (by decide), if_pos rfl] at hrow
          have h13 : f 13 = .int .i64 (5) := hf 10 (by decide) 13 rfl
          have P1d := Lib.hid hrow
          have P2d := Lib.hid hr.1
          simp only [List.foldl, Act.put, List.setIfInBounds_toArray, List.set_cons_zero, List.set_cons_succ]
          rw [h12, h13]
          clear hf h12 h13
          generalize f 39 = z39
          generalize f 40 = z40
          generalize f 41 = z41
          generalize f 42 = z42
          generalize f 43 = z43
          generalize f 38 = z38
          generalize f 44 = z44
          generalize f 45 = z45
          clear hall hr hrow
          have Q6 := Lib.hid (P1.out.below (bthen P2b.out (bthen P2c.out P2d.out)) P1.out.lt)
          have Q8 := Lib.hid (P1b.out.below (bthen P2c.out P2d.out) P1b.out.lt)
          have Q10 := Lib.hid (P1c.out.below P2d.out P1c.out.lt)
          have Q12 := P1d
          have hbe := bthen P2.out (bthen P2b.out (bthen P2c.out P2d.out))
          have QO := Lib.hid (HO2.out.below hbe HO2.out.lt)
          have QS := Lib.hid (HR2.out.below hbe HR2.out.lt)
          have HBE := Lib.hid (show Below w.heap.size w wd by rw [HSB.out]; exact HB2.out.trans (hbe.mono (by have := HR2.out.lt; omega)))
          have q1 := state_equal A HAL.out
          have q2 := state_equal st HL.out
          have q3 := zero_equal
          clear hbe P1 P1b P1c P1d P2 P2b P2c P2d
          go_wp2_with (first | (with_reducible refine wpList_load_rowG ?a0 27 (.tmp 6) rfl g6 ?a1 27 (words A).toArray (0, 0) _ Q6.out.out Try.underlying27 rfl ?a2 ?_) | (with_reducible refine wpList_load_rowG ?b0 27 (.tmp 8) rfl g8 ?b1 27 (words A).toArray (0, 0) _ Q8.out.out Try.underlying27 rfl ?b2 ?_) | (with_reducible refine wpList_load_rowG ?c0 27 (.tmp 5) rfl ob ?c1 27 (words st).toArray (0, 0) _ QO.out.out Try.underlying27 rfl ?c2 ?_) | (with_reducible refine wpList_load_rowG ?d0 27 (.tmp 2) rfl sb ?d1 27 (words st).toArray (0, 0) _ QS.out.out Try.underlying27 rfl ?d2 ?_) | (with_reducible refine wpList_load_rowG ?e0 27 (.tmp 10) rfl g10 ?e1 27 (words zero8).toArray (0, 0) _ Q10.out.out Try.underlying27 rfl ?e2 ?_) | (with_reducible refine wpList_load_rowG ?f0 27 (.tmp 12) rfl g12 ?f1 27 (words zero8).toArray (0, 0) _ Q12.out.out Try.underlying27 rfl ?f2 ?_))
          try case a0 => rfl
          try case a1 => rfl
          try case a2 => exact w8_info _ HAL.out
          try case b0 => rfl
          try case b1 => rfl
          try case b2 => exact w8_info _ HAL.out
          try case c0 => rfl
          try case c1 => rfl
          try case c2 => exact w8_info _ HL.out
          try case d0 => rfl
          try case d1 => rfl
          try case d2 => exact w8_info _ HL.out
          try case e0 => rfl
          try case e1 => rfl
          try case e2 => exact w8_info _ rfl
          try case f0 => rfl
          try case f1 => rfl
          try case f2 => exact w8_info _ rfl
          trace_state
          go_ret
          exact ⟨rfl, HBE.out⟩
end Go.Proofs.Ytdfgcjjaiggpkaa
