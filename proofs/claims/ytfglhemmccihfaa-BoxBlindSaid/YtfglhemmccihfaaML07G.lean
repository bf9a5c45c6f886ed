/-
Layer 7's laws, walked: BoxBlind.
-/
import Derived.Test.YtfglhemmccihfaaML07E
import Derived.Test.YtfglhemmccihfaaMd
namespace Go.Proofs.Ytfglhemmccihfaa
open Go.RowKit Go.Maps

theorem useKeyedB : Keyed Try.prog 53 := Keyed.of_law (deep_law_laid (show laidOutB Try.prog = true by kernel_rfl) (m := 3) (by omega) (of_decide_eq_true (by kernel_rfl)) (by kernel_rfl) (by kernel_rfl))
theorem use_keyB (a b : ByteArray) (ha : a.size ≤ maxLen) (hb : b.size ≤ maxLen) : ∃ kl, keyOf Try.prog 53 (.agg #[.string a, .string b]) = some kl :=
  keyOf_strs Try.underlying9 (by kernel_rfl) Try.underlying53 (by kernel_rfl) [a, b] (by intro s hs; simp at hs; rcases hs with rfl | rfl <;> assumption) (by kernel_rfl) (by kernel_rfl) (by kernel_rfl) ⟨Try.prog.types.size - 1, by kernel_rfl⟩
theorem zeroBoolV (w : World) : (zeroValue 4).run Try.prog w = .ok (.bool false) w := by kernel_rfl
def useP (p : ByteArray × ByteArray) : Value × Value := (.agg #[.string p.1, .string p.2], .bool true)
theorem use_inj {a b c d : ByteArray} (h : (Value.agg #[.string a, .string b]) = .agg #[.string c, .string d]) : a = c ∧ b = d := by
  injection h with h1
  have h2 : [Value.string a, Value.string b] = [Value.string c, Value.string d] := congrArg Array.toList h1
  injection h2 with x1 h2
  injection h2 with x2 _
  injection x1 with x1
  injection x2 with x2
  exact ⟨x1, x2⟩
/-- Every key and nonce that was sealed by is among these. -/
def Known (st : BoxSt) (l : List (ByteArray × ByteArray)) : Prop := ∀ e ∈ st.tab, (e.k, e.n) ∈ l
theorem Known.none {st : BoxSt} {l : List (ByteArray × ByteArray)} (h : Known st l) {k n : ByteArray} (hn : (k, n) ∉ l) : findB st.tab k n = none := by
  cases hf : findB st.tab k n with
  | none => rfl
  | some e =>
    obtain ⟨m1, m2, m3⟩ := findB_some hf
    have := h e m1
    rw [m2, m3] at this
    exact absurd this hn
theorem Known.seal {st : BoxSt} {l : List (ByteArray × ByteArray)} (h : Known st l) {k n d t r : ByteArray} {c : Int} {st' : BoxSt} (hs : sealB st k n d t = (r, c, st')) : Known st' (l ++ [(k, n)]) := by
  rcases seal_cases hs with ⟨_, rfl, _⟩ | ⟨_, rfl, _⟩ | ⟨_, _, _, _, _, rfl⟩
  · exact fun e he => List.mem_append_left _ (h e he)
  · exact fun e he => List.mem_append_left _ (h e he)
  · intro e he
    rcases List.mem_append.1 he with he | he
    · exact List.mem_append_left _ (h e he)
    · obtain rfl := List.mem_singleton.1 he
      simp
theorem seal_short {st : BoxSt} {k n d t r : ByteArray} {c : Int} {st' : BoxSt} (hs : sealB st k n d t = (r, c, st')) : st'.tab.length ≤ st.tab.length + 1 := by
  rcases seal_cases hs with ⟨_, rfl, _⟩ | ⟨_, rfl, _⟩ | ⟨_, _, _, _, _, rfl⟩
  · exact Nat.le_succ _
  · exact Nat.le_succ _
  · simp
/-- What comes out hangs on the text's size alone. -/
theorem seal_blind {sa sb : BoxSt} (hd : sa.draws = sb.draws) {k n d t d' t' r r' : ByteArray} {c c' : Int} {sa' sb' : BoxSt} (h1 : sealB sa k n d t = (r, c, sa')) (h2 : sealB sb k n d' t' = (r', c', sb'))
    (f1 : findB sa.tab k n = none) (f2 : findB sb.tab k n = none) (z1 : d.size ≤ 4096) (z2 : d'.size ≤ 4096) (hz : t.size = t'.size) : r = r' ∧ c = c' ∧ sa'.draws = sb'.draws := by
  have hm : mayB k n d t.size = mayB k n d' t'.size := by
    unfold mayB
    rw [hz, decide_eq_decide]
    constructor
    · rintro ⟨q1, q2, _, q4, q5⟩; exact ⟨q1, q2, z2, q4, q5⟩
    · rintro ⟨q1, q2, _, q4, q5⟩; exact ⟨q1, q2, z1, q4, q5⟩
  unfold sealB at h1 h2
  rw [hm] at h1
  rw [f1, hd, hz] at h1
  rw [f2] at h2
  cases hb : mayB k n d' t'.size with
  | false =>
    rw [hb, if_neg Bool.false_ne_true] at h1 h2
    injection h1 with a1 a2
    injection a2 with a2 a3
    injection h2 with b1 b2
    injection b2 with b2 b3
    exact ⟨by rw [← a1, ← b1], by rw [← a2, ← b2], by rw [← a3, ← b3, hd]⟩
  | true =>
    rw [hb, if_pos rfl] at h1 h2
    simp only at h1 h2
    by_cases hq : sb.draws.size < t'.size + 16
    · rw [if_pos hq] at h1 h2
      injection h1 with a1 a2
      injection a2 with a2 a3
      injection h2 with b1 b2
      injection b2 with b2 b3
      exact ⟨by rw [← a1, ← b1], by rw [← a2, ← b2], by rw [← a3, ← b3, hd]⟩
    · rw [if_neg hq] at h1 h2
      injection h1 with a1 a2
      injection a2 with a2 a3
      injection h2 with b1 b2
      injection b2 with b2 b3
      exact ⟨by rw [← a1, ← b1], by rw [← a2, ← b2], by rw [← a3, ← b3]⟩
set_option maxRecDepth 100000 in
set_option maxHeartbeats 8000000 in
theorem BoxBlind_w (draws : ByteArray) (ao : Option Addr) (cap : Nat) (l : List ActB) (other : ByteArray) (hot : other.size ≤ 140737488351232) (w : World) (hat : ActsAt w ao l) (hok : ∀ a ∈ l, a.ok) :
    Calls Try.prog 11 #[.string draws, .slice ao l.length cap, .string other] w fun e w' => e = .returned (.bool true) ∧ Below w.heap.size w w' := by
  have HAT := Lib.hid hat
  have HOK := Lib.hid hok
  clear hat hok
  by_cases h1 : 8192 < draws.size
  · have g1 : decide ((8192 : Int) < (draws.size : Int)) = true := decide_eq_true (by omega)
    clear h1
    go_enter Try.func11, Try.ntmps11
    go_wp2_with fail
    refine (awake07 _).mono ?_
    rintro e w1 ⟨rfl, hb1⟩
    have HB1 := Lib.hid hb1
    clear hb1
    go_wp2_with fail
    go_ret
    exact ⟨rfl, HB1.out⟩
  have g1 : decide ((8192 : Int) < (draws.size : Int)) = false := decide_eq_false (by omega)
  by_cases h2 : other.size < 1
  · have g2 : decide ((other.size : Int) < 1) = true := decide_eq_true (by omega)
    clear h1 h2
    go_enter Try.func11, Try.ntmps11
    go_wp2_with fail
    refine (awake07 _).mono ?_
    rintro e w1 ⟨rfl, hb1⟩
    have HB1 := Lib.hid hb1
    clear hb1
    go_wp2_with fail
    go_ret
    exact ⟨rfl, HB1.out⟩
  have g2 : decide ((other.size : Int) < 1) = false := decide_eq_false (by omega)
  have HO1 := Lib.hid (show 0 < other.size by omega)
  clear h1 h2
  go_enter Try.func11, Try.ntmps11
  go_wp2_with fail
  refine (awake07 _).mono ?_
  rintro e w1 ⟨rfl, hb1⟩
  have HB1 := Lib.hid hb1
  clear hb1
  go_wp2_with fail
  refine (Ideal_walk draws _).mono ?_
  rintro e w2 ⟨rfl, hx2, hb2⟩
  have HB2 := Lib.hid (bthen HB1.out hb2)
  have HZ1 := Lib.hid HB1.out.size
  have HZ2 := Lib.hid (show w1.heap.size + 1 < w2.heap.size from hx2.1.lt)
  clear hb2
  obtain ⟨mb, hmb⟩ : ∃ mb, mb = w1.heap.size := ⟨_, rfl⟩
  rw [← hmb] at hx2 HZ1 HZ2 ⊢
  have HX2 := Lib.hid hx2
  clear hx2 hmb
  go_wp2_with fail
  refine (Ideal_walk draws _).mono ?_
  rintro e w3 ⟨rfl, hy3, hb3⟩
  have HB3 := Lib.hid (bthen HB2.out hb3)
  have HX3 := Lib.hid (HX2.out.below hb3)
  have HZ3 := Lib.hid (show w2.heap.size + 1 < w3.heap.size from hy3.1.lt)
  clear hb3 HB1 HB2 HX2
  obtain ⟨nb, hnb⟩ : ∃ nb, nb = w2.heap.size := ⟨_, rfl⟩
  rw [← hnb] at hy3 HZ2 HZ3 ⊢
  have HY3 := Lib.hid hy3
  clear hy3 hnb
  have hmm := @run_makeMap Try.prog
  go_upto_region 8 with fail
  clear hmm
  have hbn : Below w3.heap.size w3 (w3.alloc (.map #[] 0)) := (Below.refl _ _).alloc (Nat.le_refl _) _
  have HT4 := Lib.hid (TabAt.made w3 Try.prog 53)
  have HX4 := Lib.hid (HX3.out.below hbn)
  have HY4 := Lib.hid (HY3.out.below hbn)
  have HB4 := Lib.hid (bthen HB3.out hbn)
  clear hbn HX3 HY3 HB3
  generalize w3.alloc (.map #[] 0) = w4 at HT4 HX4 HY4 HB4 ⊢
  generalize w3.heap.size = kb at HT4 HZ3 ⊢
  go_loopw [10] (fun i wr => ∃ k : Nat, k ≤ l.length ∧ k ≤ 40 ∧ i = .int .i64 k ∧ ∃ (sa sb : BoxSt) (us : List (ByteArray × ByteArray)), sa.tab.length ≤ k ∧ sb.tab.length ≤ k ∧ us.length ≤ k ∧ Hid (sa.draws = sb.draws ∧ Known sa us ∧ Known sb us) ∧ Hid (BoxAt wr (mb + 1) mb sa) ∧ Hid (BoxAt wr (nb + 1) nb sb) ∧ Hid (TabAt wr Try.prog 53 kb (us.map useP)) ∧ Hid (Below w.heap.size w wr)) (fun i _ => 40 - (intOf i).toNat)
  case atStart => exact ⟨0, Nat.zero_le _, Nat.zero_le _, rfl, ⟨draws, []⟩, ⟨draws, []⟩, [], Nat.le_refl _, Nat.le_refl _, Nat.le_refl _, ⟨rfl, (fun e he => by cases he), (fun e he => by cases he)⟩, HX4.out, HY4.out, HT4.out, HB4.out⟩
  case round =>
    obtain ⟨k, hk1, hk2, rfl, sa, sb, us, hsa, hsb0, hus, HK, HBX, HBY, HKN, HB⟩ := hrel
    have hfr := HB.out.size
    rcases Nat.lt_or_ge k l.length with hlt | hge
    · have d1 : decide ((k : Int) < (l.length : Int)) = true := decide_eq_true (by omega)
      rcases Nat.lt_or_ge k 40 with hlt2 | hge2
      · have d2 : decide ((k : Int) < 40) = true := decide_eq_true (by omega)
        obtain ⟨ab, off, rfl, hal, a0, a1, a2, a3, a4⟩ := (HAT.out.below HB.out) k hlt
        have HQO := Lib.hid (HOK.out _ (List.getElem_mem hlt))
        generalize l[k] = q at a0 a1 a2 a3 a4 HQO
        have h0 := Lib.hid a0
        have h1 := Lib.hid a1
        have h2 := Lib.hid a2
        have h3 := Lib.hid a3
        have h4 := Lib.hid a4
        go_wp2_with fail
        refine (large07 q _).mono ?_
        rintro e w2 ⟨rfl, hb2⟩
        have HB2 := Lib.hid (bthen HB.out hb2)
        have hal2 : ab < w2.heap.size := Nat.lt_of_lt_of_le hal hb2.size
        clear a0 a1 a2 a3 a4
        have a0 := (hb2.cell (p := ⟨ab, off + k * 5, none⟩) hal).trans h0.out
        have a1 := (hb2.cell (p := ⟨ab, off + k * 5 + 1, none⟩) hal).trans h1.out
        have a2 := (hb2.cell (p := ⟨ab, off + k * 5 + 2, none⟩) hal).trans h2.out
        have a3 := (hb2.cell (p := ⟨ab, off + k * 5 + 3, none⟩) hal).trans h3.out
        have a4 := (hb2.cell (p := ⟨ab, off + k * 5 + 4, none⟩) hal).trans h4.out
        have HW2 := Lib.hid hb2
        clear hb2 hal
        rcases Bool.eq_false_or_eq_true (largeB q) with hL | hL
        · rw [hL]
          clear hL
          go_wp2_with fail
          go_ret
          exact ⟨rfl, HB2.out⟩
        have HL := Lib.hid hL
        rw [hL]
        clear hL
        go_wp2_with fail
        refine (fixed07 q HQO.out.1 HQO.out.2 HL.out _).mono ?_
        rintro e w3 ⟨rfl, hb3⟩
        have HB3 := Lib.hid (bthen HB2.out hb3)
        have HW3 := Lib.hid (bthen HW2.out hb3)
        obtain ⟨x, hx⟩ : ∃ x, x = fixedB q := ⟨_, rfl⟩
        obtain ⟨hz1, hz2, hz3, hz4⟩ := fixedB_sizes HL.out
        rw [← hx] at hz1 hz2 hz3 hz4 ⊢
        clear hb3 a0 a1 a2 a3 a4 hx HB2 hal2 HW2
        unfold actV
        have hz0 := RowAt.new w3 #[.int .i64 0, .string ⟨#[]⟩, .string ⟨#[]⟩, .string ⟨#[]⟩, .string ⟨#[]⟩] 44 (0, 0)
        go_upto_region 13 with (with_reducible refine wpList_store_rowTo rfl 44 (.tmp 11) (.tmp 52) rfl rfl w3.heap.size (actC x) ?h1 ?h2 44 #[.int .i64 0, .string ⟨#[]⟩, .string ⟨#[]⟩, .string ⟨#[]⟩, .string ⟨#[]⟩] ?h0 ?h3 ?h4 ?h5 ?_)
        case h0 => exact hz0.out
        case h1 => rfl
        case h2 => rfl
        case h3 => kernel_rfl
        case h4 => rfl
        case h5 => simp [actC, Value.oneCell']
        have hWA : Below w3.heap.size w3 ((w3.alloc (.cells #[.int .i64 0, .string ⟨#[]⟩, .string ⟨#[]⟩, .string ⟨#[]⟩, .string ⟨#[]⟩] 44)).setRow w3.heap.size (actC x)) := Below.setRow ((Below.refl _ _).alloc (Nat.le_refl _) _) (Nat.le_refl _) _
        have HAA := Lib.hid (RowAt.setRow hz0 (actC x))
        have HBA := Lib.hid (bthen HB3.out hWA)
        have HWA := Lib.hid (bthen HW3.out hWA)
        have HXB := Lib.hid (show wr.heap.size ≤ w3.heap.size from HW3.out.size)
        clear hWA hz0 HB3 HW3
        generalize (w3.alloc (.cells #[.int .i64 0, .string ⟨#[]⟩, .string ⟨#[]⟩, .string ⟨#[]⟩, .string ⟨#[]⟩] 44)).setRow w3.heap.size (actC x) = wa at HAA HBA HWA ⊢
        generalize w3.heap.size = xb at HAA HXB ⊢
        unfold actC at HAA
        have HBXA := Lib.hid (HBX.out.below HWA.out)
        have HBYA := Lib.hid (HBY.out.below HWA.out)
        have HKNA := Lib.hid (HKN.out.below HWA.out HKN.out.lt)
        have HL1 := Lib.hid (show mb + 1 < wr.heap.size from HBX.out.1.lt)
        have HL2 := Lib.hid (show nb + 1 < wr.heap.size from HBY.out.1.lt)
        have HL3 := Lib.hid (show kb < wr.heap.size from HKN.out.lt)
        clear HBX HBY HKN HB
        by_cases hk0 : x.kind = 0
        rotate_left
        · have e0 : (x.kind != 0) = true := bne_iff_ne.2 hk0
          clear hk0
          have a0 := HAA.out.cell (i := 0) rfl
          go_wp2_with fail
          clear a0
          go_roundw
          case rel => exact ⟨k + 1, by omega, by omega, by go_num, sa, sb, us, by omega, by omega, by omega, HK.out, HBXA.out, HBYA.out, HKNA.out, HBA.out⟩
          case measure => simp [intOf]; omega
        have e0 : (x.kind != 0) = false := by rw [hk0]; rfl
        clear hk0
        have a0 := HAA.out.cell (i := 0) rfl
        have a1 := HAA.out.cell (i := 1) rfl
        have a2 := HAA.out.cell (i := 2) rfl
        have a3 := HAA.out.cell (i := 3) rfl
        have a4 := HAA.out.cell (i := 4) rfl
        by_cases hin : (x.k, x.n) ∈ us
        · have hlk := run_at_in HKNA.out useKeyedB Try.underlying51 (zeroBoolV _) (show ((.agg #[.string x.k, .string x.n], .bool true) : Value × Value) ∈ us.map useP from List.mem_map.2 ⟨_, hin, rfl⟩)
          clear hin
          go_wp2_with fail
          clear hlk a0 a1 a2 a3 a4
          go_roundw
          case rel => exact ⟨k + 1, by omega, by omega, by go_num, sa, sb, us, by omega, by omega, by omega, HK.out, HBXA.out, HBYA.out, HKNA.out, HBA.out⟩
          case measure => simp [intOf]; omega
        have HOUT := Lib.hid (show ∀ p ∈ us.map useP, p.1 ≠ .agg #[.string x.k, .string x.n] by
          intro p hp hh
          obtain ⟨q, hq, rfl⟩ := List.mem_map.1 hp
          obtain ⟨i1, i2⟩ := use_inj hh
          obtain ⟨q1, q2⟩ := q
          simp only at i1 i2
          subst i1 i2
          exact hin hq)
        have HNI := Lib.hid hin
        have HKEY := Lib.hid (use_keyB x.k x.n (maxLen_100 hz1) (maxLen_100 hz2))
        have HLT := Lib.hid (show (us.map useP).length < maxLen by rw [List.length_map]; exact lt_maxLen (by omega))
        have hlk := run_at_out HKNA.out useKeyedB Try.underlying51 (zeroBoolV _) HKEY.out HOUT.out
        clear hin
        go_upto_region 14 with fail
        clear hlk
        go_upto_region 15 with (at_mapUpdate; refine wpList_put_new _ rfl _ _ _ 51 rfl 53 4 useKeyedB Try.underlying51 kb _ rfl HKNA.out HLT.out (.agg #[.string x.k, .string x.n]) (.bool true) rfl rfl HKEY.out HOUT.out ?_; intro wu htu hmu)
        have HSU := Lib.hid (Beside.turned (S := [kb]) (b := kb) (Beside.refl [kb] _) (by simp) hmu)
        have HKU := Lib.hid (show TabAt wu Try.prog 53 kb ((us ++ [(x.k, x.n)]).map useP) by rw [List.map_append]; exact htu)
        have HBU := Lib.hid (HBA.out.trans (HSU.out.below (show ∀ i ∈ [kb], w.heap.size ≤ i by have := HZ1.out; have := HZ2.out; have := HZ3.out; simp; omega) HBA.out.size))
        have HXU := Lib.hid (HBXA.out.beside HSU.out (show mb + 1 ∉ [kb] by have := HZ2.out; have := HZ3.out; simp; omega) (show mb ∉ [kb] by have := HZ2.out; have := HZ3.out; simp; omega))
        have HYU := Lib.hid (HBYA.out.beside HSU.out (show nb + 1 ∉ [kb] by have := HZ3.out; simp; omega) (show nb ∉ [kb] by have := HZ3.out; simp; omega))
        have HAU := Lib.hid (HAA.out.beside HSU.out (show xb ∉ [kb] by have := HL3.out; have := HXB.out; simp; omega))
        clear htu hmu HSU HKNA HBXA HBYA HAA HBA a0 a1 a2 a3 a4
        have a0 := HAU.out.cell (i := 0) rfl
        have a1 := HAU.out.cell (i := 1) rfl
        have a2 := HAU.out.cell (i := 2) rfl
        have a3 := HAU.out.cell (i := 3) rfl
        have a4 := HAU.out.cell (i := 4) rfl
        have hcv := run_bytes_of_string (P := Try.prog) wu 9 32 5 x.t Try.underlying9 Try.underlying32 Try.underlying5
        have hrow0 := (RowAt.new wu (bytesRow x.t (grownCap wu x.t.size 0 5)) 5 ((bytesRow x.t (grownCap wu x.t.size 0 5)).size, (bytesRow x.t (grownCap wu x.t.size 0 5)).size + 1)).drew
        have hbv : Below wu.heap.size wu (wu.alloc (.cells (bytesRow x.t (grownCap wu x.t.size 0 5)) 5 ((bytesRow x.t (grownCap wu x.t.size 0 5)).size, (bytesRow x.t (grownCap wu x.t.size 0 5)).size + 1))).drew := ((Below.refl _ _).alloc (Nat.le_refl _) _).drew
        have ht0 := bytesRow_take x.t (grownCap wu x.t.size 0 5)
        have hs0 := bytesRow_size x.t (grownCap wu x.t.size 0 5)
        generalize grownCap wu x.t.size 0 5 = tcap at hcv hrow0 hbv ht0 hs0
        generalize bytesRow x.t tcap = row at hcv hrow0 hbv ht0 hs0
        have HROW := Lib.hid hrow0
        have HTK := Lib.hid ht0
        have HRS := Lib.hid hs0
        have HWV := Lib.hid hbv
        clear hrow0 ht0 hs0 hbv
        go_upto_region 16 with fail
        clear hcv a0 a1 a2 a3 a4
        have HXV := Lib.hid (HXU.out.below HWV.out)
        have HYV := Lib.hid (HYU.out.below HWV.out)
        have HKV := Lib.hid (HKU.out.below HWV.out HKU.out.lt)
        have HAV := Lib.hid (HAU.out.below HWV.out HAU.out.lt)
        have HBV := Lib.hid (bthen HBU.out HWV.out)
        have HL4 := Lib.hid (show xb < wu.heap.size from HAU.out.lt)
        have HL5 := Lib.hid (show nb + 1 < wu.heap.size from HYU.out.1.lt)
        have HL6 := Lib.hid (show mb + 1 < wu.heap.size from HXU.out.1.lt)
        have HL7 := Lib.hid (show kb < wu.heap.size from HKU.out.lt)
        have HL8 := Lib.hid HBU.out.size
        clear HXU HYU HKU HAU HBU HWV
        generalize (wu.alloc (.cells row 5 (row.size, row.size + 1))).drew = wv at HROW HXV HYV HKV HAV HBV ⊢
        generalize wu.heap.size = tb at HROW HL4 HL5 HL6 HL7 HL8 ⊢
        go_wp2_with fail
        go_loopw [76] (fun i wi => ∃ j : Nat, j ≤ x.t.size ∧ i = .int .i64 j ∧ (∃ (cs : Array Value) (L : List UInt8), Hid (cs.size = row.size ∧ L.length = x.t.size ∧ cs.toList.take x.t.size = cells L ∧ RowAt wi tb cs 5 (row.size, row.size + 1))) ∧ Hid (Beside [tb] wv wi)) (fun i _ => x.t.size - (intOf i).toNat)
        case atStart => exact ⟨0, Nat.zero_le _, rfl, ⟨row, x.t.data.toList, rfl, (by rw [Array.length_toList]; rfl), HTK.out, HROW.out⟩, Beside.refl _ _⟩
        case round =>
          obtain ⟨j, hj, rfl, ⟨cs, L, HC⟩, HSI⟩ := hrel
          rcases Nat.lt_or_ge j x.t.size with hjl | hjg
          · have d3 : decide ((j : Int) < (x.t.size : Int)) = true := decide_eq_true (by omega)
            have f1 := HC.out.2.2.2.free (i := j) (by have := HRS.out; simp; omega)
            have c1 := HC.out.2.2.2.cell (take_cell HC.out.2.2.1 (i := j) (by rw [HC.out.2.1]; exact hjl) hjl)
            obtain ⟨m, hm⟩ : ∃ m, m = j % other.size := ⟨_, rfl⟩
            have hml : m < other.size := by rw [hm]; exact Nat.mod_lt _ HO1.out
            have hmi : (j : Int).tmod (other.size : Int) = (m : Int) := by rw [hm]; exact Int.ofNat_tmod j other.size
            have hone : (other.size : Int) ≠ 0 := by have := HO1.out; omega
            have honz : ((other.size : Int) == 0) = false := beq_eq_false_iff_ne.2 hone
            clear hm
            go_wp2_with fail
            go_roundw
            case rel => exact ⟨j + 1, by omega, by go_num, ⟨cs.setIfInBounds j (u8c (other[m]'hml)), L.set j (other[m]'hml), (by rw [Array.size_setIfInBounds]; exact HC.out.1), (by rw [List.length_set]; exact HC.out.2.1), take_set HC.out.2.2.1 j _, HC.out.2.2.2.store j (u8c (other[m]'hml))⟩, HSI.out.setCell (p := ⟨tb, j, none⟩) (by simp) _⟩
            case measure => simp [intOf]; omega
          · obtain rfl : j = x.t.size := by omega
            have d3 : decide ((x.t.size : Int) < (x.t.size : Int)) = false := decide_eq_false (by omega)
            obtain ⟨ra, ca, sa', hsl⟩ : ∃ r c s, sealB sa x.k x.n x.d x.t = (r, c, s) := ⟨_, _, _, rfl⟩
            obtain ⟨T, hT⟩ : ∃ T : ByteArray, T = ⟨L.toArray⟩ := ⟨_, rfl⟩
            obtain ⟨D, hD⟩ : ∃ D, D = x.d ++ other := ⟨_, rfl⟩
            obtain ⟨rb, cb, sb', htl⟩ : ∃ r c s, sealB sb x.k x.n D T = (r, c, s) := ⟨_, _, _, rfl⟩
            have HSL := Lib.hid hsl
            have HTL := Lib.hid htl
            have HT := Lib.hid hT
            have HD := Lib.hid hD
            have HTZ := Lib.hid (show T.size = x.t.size by rw [hT, ← HC.out.2.1]; rfl)
            clear hsl htl hT hD
            have HXI := Lib.hid (HXV.out.beside HSI.out (show mb + 1 ∉ [tb] by have := HL6.out; simp; omega) (show mb ∉ [tb] by have := HL6.out; simp; omega))
            have HYI := Lib.hid (HYV.out.beside HSI.out (show nb + 1 ∉ [tb] by have := HL5.out; simp; omega) (show nb ∉ [tb] by have := HL5.out; simp; omega))
            have HKI := Lib.hid (HKV.out.beside HSI.out (show kb ∉ [tb] by have := HL7.out; simp; omega))
            have HAI := Lib.hid (HAV.out.beside HSI.out (show xb ∉ [tb] by have := HL4.out; simp; omega))
            have HBI := Lib.hid (HBV.out.trans (HSI.out.below (show ∀ i ∈ [tb], w.heap.size ≤ i by have := HL8.out; simp; omega) HBV.out.size))
            clear HXV HYV HKV HAV HBV HSI
            have a0 := HAI.out.cell (i := 0) rfl
            have a1 := HAI.out.cell (i := 1) rfl
            have a2 := HAI.out.cell (i := 2) rfl
            have a3 := HAI.out.cell (i := 3) rfl
            have a4 := HAI.out.cell (i := 4) rfl
            go_wp2_with fail
            refine (BSeal_walk (mb + 1) mb sa x.k x.n x.d x.t (maxLen_100 hz1) (maxLen_100 hz2) (by omega) _ HXI.out (lt_maxLen (by omega)) ra ca sa' HSL.out).mono ?_
            rintro e wb ⟨rfl, hxb, hsb⟩
            have HXJ := Lib.hid hxb
            have HYJ := Lib.hid (HYI.out.beside hsb (show nb + 1 ∉ [mb + 1, mb] by have := HZ2.out; simp; omega) (show nb ∉ [mb + 1, mb] by have := HZ2.out; simp; omega))
            have HKJ := Lib.hid (HKI.out.beside hsb (show kb ∉ [mb + 1, mb] by have := HZ2.out; have := HZ3.out; simp; omega))
            have HAJ := Lib.hid (HAI.out.beside hsb (show xb ∉ [mb + 1, mb] by have := HL1.out; have := HXB.out; simp; omega))
            have HRJ := Lib.hid (HC.out.2.2.2.beside hsb (show tb ∉ [mb + 1, mb] by have := HL6.out; simp; omega))
            have HBJ := Lib.hid (HBI.out.trans (hsb.below (show ∀ i ∈ [mb + 1, mb], w.heap.size ≤ i by have := HZ1.out; simp; omega) HBI.out.size))
            clear hxb hsb HXI HYI HKI HAI HBI a0 a1 a2 a3 a4
            have a0 := HAJ.out.cell (i := 0) rfl
            have a1 := HAJ.out.cell (i := 1) rfl
            have a2 := HAJ.out.cell (i := 2) rfl
            have a3 := HAJ.out.cell (i := 3) rfl
            have a4 := HAJ.out.cell (i := 4) rfl
            have hst := run_str (P := Try.prog) wb 32 5 Try.underlying32 Try.underlying5 9 Try.underlying9 tb x.t.size tcap _ _ _ L HRJ.out HC.out.2.1 HC.out.2.2.1
            rw [← HT.out] at hst
            have hov : ¬ 9223372036854775807 < x.d.size + other.size := by omega
            go_wp2_with fail
            rw [← HD.out]
            clear hst
            refine (BSeal_walk (nb + 1) nb sb x.k x.n D T (maxLen_100 hz1) (maxLen_100 hz2) (by rw [HTZ.out]; omega) _ HYJ.out (lt_maxLen (by omega)) rb cb sb' HTL.out).mono ?_
            rintro e wd ⟨rfl, hyb, hsd⟩
            have HYK := Lib.hid hyb
            have HXK := Lib.hid (HXJ.out.beside hsd (show mb + 1 ∉ [nb + 1, nb] by have := HZ2.out; simp; omega) (show mb ∉ [nb + 1, nb] by have := HZ2.out; simp; omega))
            have HKK := Lib.hid (HKJ.out.beside hsd (show kb ∉ [nb + 1, nb] by have := HZ3.out; simp; omega))
            have HAK := Lib.hid (HAJ.out.beside hsd (show xb ∉ [nb + 1, nb] by have := HL2.out; have := HXB.out; simp; omega))
            have HBK := Lib.hid (HBJ.out.trans (hsd.below (show ∀ i ∈ [nb + 1, nb], w.heap.size ≤ i by have := HZ1.out; have := HZ2.out; simp; omega) HBJ.out.size))
            have HDZ := Lib.hid (show D.size = x.d.size + other.size by rw [HD.out, ByteArray.size_append])
            clear hyb hsd HXJ HYJ HKJ HAJ HBJ HRJ a0 a1 a2 a3 a4
            have a3 := HAK.out.cell (i := 3) rfl
            by_cases hbig : 4096 < D.size
            · have d4 : decide ((4096 : Int) < (x.d.size : Int) + (other.size : Int)) = true := decide_eq_true (by have := HDZ.out; omega)
              have d5 : decide ((4096 : Int) < (D.size : Int)) = true := decide_eq_true (by omega)
              clear hbig
              go_wp2_with fail
              go_ret
              exact ⟨rfl, HBK.out⟩
            · have d4 : decide ((4096 : Int) < (x.d.size : Int) + (other.size : Int)) = false := decide_eq_false (by have := HDZ.out; omega)
              obtain ⟨q1, q2, q3⟩ := seal_blind HK.out.1 HSL.out HTL.out (HK.out.2.1.none HNI.out) (HK.out.2.2.none HNI.out) (by omega) (by omega) HTZ.out.symm
              have HK2 := Lib.hid (show sa'.draws = sb'.draws ∧ Known sa' (us ++ [(x.k, x.n)]) ∧ Known sb' (us ++ [(x.k, x.n)]) from ⟨q3, HK.out.2.1.seal HSL.out, HK.out.2.2.seal HTL.out⟩)
              have HN1 := Lib.hid (show sa'.tab.length ≤ k + 1 by have := seal_short HSL.out; omega)
              have HN2 := Lib.hid (show sb'.tab.length ≤ k + 1 by have := seal_short HTL.out; omega)
              subst q1 q2
              have hqq := seq_self ra
              have hcc : (ca != ca) = false := bne_self_eq_false ca
              have hdd : ((sa'.draws.size : Int) != (sb'.draws.size : Int)) = false := by rw [q3]; exact bne_self_eq_false _
              clear hbig q3
              go_wp2_with fail
              refine (BLeft_walk (mb + 1) mb sa' _ HXK.out).mono ?_
              rintro e w9 ⟨rfl, rfl⟩
              go_wp2_with fail
              refine (BLeft_walk (nb + 1) nb sb' _ HYK.out).mono ?_
              rintro e w9 ⟨rfl, rfl⟩
              go_wp2_with fail
              go_roundw
              case rel => exact ⟨k + 1, by omega, by omega, by go_num, sa', sb', us ++ [(x.k, x.n)], HN1.out, HN2.out, by simp; omega, HK2.out, HXK.out, HYK.out, HKK.out, HBK.out⟩
              case measure => simp [intOf]; omega
      · have d2 : decide ((k : Int) < 40) = false := decide_eq_false (by omega)
        go_wp2_with fail
        go_ret
        exact ⟨rfl, HB.out⟩
    · have d1 : decide ((k : Int) < (l.length : Int)) = false := decide_eq_false (by omega)
      go_wp2_with fail
      go_ret
      exact ⟨rfl, HB.out⟩
end Go.Proofs.Ytfglhemmccihfaa
