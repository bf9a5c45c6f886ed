/-
Layer 7's laws, walked: BoxOpens.
-/
import Derived.Test.YtfglhemmccihfaaMt
namespace Go.Proofs.Ytfglhemmccihfaa
open Go.RowKit Go.Maps

/-- A box that was sealed by: no key and nonce twice, all sizes may be. -/
structure GoodB (st : BoxSt) : Prop where
  apart : st.tab.Pairwise fun a b => ¬ (a.k = b.k ∧ a.n = b.n)
  may : ∀ e ∈ st.tab, mayB e.k e.n e.d e.t.size = true ∧ e.s.size = e.t.size + 16
theorem find_in {tab : List Ent} (ha : tab.Pairwise fun a b => ¬ (a.k = b.k ∧ a.n = b.n)) {e : Ent} (he : e ∈ tab) : findB tab e.k e.n = some e := by
  induction tab with
  | nil => cases he
  | cons y tab ih =>
    rw [List.pairwise_cons] at ha
    unfold findB at ih ⊢
    rw [List.find?_cons]
    rcases List.mem_cons.1 he with rfl | he
    · rw [seq_self, seq_self]; rfl
    · have hn := ha.1 e he
      have : (seq y.k e.k && seq y.n e.n) = false := by
        rw [Bool.and_eq_false_iff, seq_no, seq_no]
        by_cases h : y.k = e.k
        · exact .inr fun h2 => hn ⟨h, h2⟩
        · exact .inl h
      rw [this]
      exact ih ha.2 he
theorem seal_cases {st : BoxSt} {k n d t r : ByteArray} {c : Int} {st' : BoxSt} (h : sealB st k n d t = (r, c, st')) :
    (c ≠ 0 ∧ st' = st ∧ r = ⟨#[]⟩) ∨ (c = 0 ∧ st' = st ∧ (⟨k, n, d, t, r⟩ : Ent) ∈ st.tab) ∨ (c = 0 ∧ findB st.tab k n = none ∧ mayB k n d t.size = true ∧ t.size + 16 ≤ st.draws.size ∧ r = st.draws.extract 0 (t.size + 16) ∧ st' = ⟨st.draws.extract (t.size + 16) st.draws.size, st.tab ++ [⟨k, n, d, t, r⟩]⟩) := by
  unfold sealB at h
  cases hm : mayB k n d t.size with
  | false =>
    rw [hm, if_neg Bool.false_ne_true] at h
    injection h with h1 h2
    injection h2 with h2 h3
    exact .inl ⟨by rw [← h2]; decide, h3.symm, h1.symm⟩
  | true =>
    rw [hm, if_pos rfl] at h
    cases hf : findB st.tab k n with
    | some e =>
      rw [hf] at h
      simp only at h
      split at h
      · rename_i hc
        rw [Bool.and_eq_true, seq_iff, seq_iff] at hc
        injection h with h1 h2
        injection h2 with h2 h3
        obtain ⟨m1, m2, m3⟩ := findB_some hf
        refine .inr (.inl ⟨h2.symm, h3.symm, ?_⟩)
        obtain ⟨ek, en, ed, et, es⟩ := e
        simp only at hc m2 m3 h1
        obtain ⟨rfl, rfl⟩ := hc
        subst m2 m3 h1
        exact m1
      · injection h with h1 h2
        injection h2 with h2 h3
        exact .inl ⟨by rw [← h2]; decide, h3.symm, h1.symm⟩
    | none =>
      rw [hf] at h
      simp only at h
      split at h
      · injection h with h1 h2
        injection h2 with h2 h3
        exact .inl ⟨by rw [← h2]; decide, h3.symm, h1.symm⟩
      · injection h with h1 h2
        injection h2 with h2 h3
        exact .inr (.inr ⟨h2.symm, rfl, rfl, by omega, h1.symm, by rw [← h3, ← h1]⟩)
theorem GoodB.seal {st : BoxSt} {k n d t r : ByteArray} {c : Int} {st' : BoxSt} (hg : GoodB st) (h : sealB st k n d t = (r, c, st')) : GoodB st' := by
  rcases seal_cases h with ⟨_, rfl, _⟩ | ⟨_, rfl, _⟩ | ⟨_, hf, hm, hz, hr, rfl⟩
  · exact hg
  · exact hg
  · refine ⟨?_, ?_⟩
    · rw [List.pairwise_append]
      refine ⟨hg.apart, List.pairwise_singleton _ _, fun a ha b hb => ?_⟩
      obtain rfl := List.mem_singleton.1 hb
      exact findB_none hf a ha
    · intro e he
      rcases List.mem_append.1 he with he | he
      · exact hg.may e he
      · obtain rfl := List.mem_singleton.1 he
        refine ⟨hm, ?_⟩
        show r.size = t.size + 16
        rw [hr, ByteArray.size_extract]; omega
theorem open_in {st : BoxSt} (hg : GoodB st) {e : Ent} (he : e ∈ st.tab) : openB st e.k e.n e.d e.s = (e.t, 0) := by
  obtain ⟨h1, h2⟩ := hg.may e he
  unfold openB
  rw [show ((e.s.size : Int) - 16) = (e.t.size : Int) by omega, h1, if_pos rfl, find_in hg.apart he]
  simp only [seq_self, Bool.and_self, if_pos]
theorem open_out {st : BoxSt} {k n d s : ByteArray} (h : ∀ e ∈ st.tab, ¬ (e.k = k ∧ e.n = n ∧ e.d = d ∧ e.s = s)) : ∃ c, c ≠ 0 ∧ openB st k n d s = (⟨#[]⟩, c) := by
  unfold openB
  split
  · cases hf : findB st.tab k n with
    | none => exact ⟨20, by decide, rfl⟩
    | some e =>
      obtain ⟨m1, m2, m3⟩ := findB_some hf
      refine ⟨20, by decide, ?_⟩
      simp only
      rw [if_neg]
      rw [Bool.and_eq_true, seq_iff, seq_iff]
      rintro ⟨h1, h2⟩
      exact h e m1 ⟨m2, m3, h1, h2⟩
  · exact ⟨5, by decide, rfl⟩
theorem maxLen_100 {n : Nat} (h : n ≤ 100) : n ≤ maxLen := Nat.le_trans h (by decide)
theorem maxLen_500 {n : Nat} (h : n ≤ 500) : n ≤ maxLen := Nat.le_trans h (by decide)
theorem lt_maxLen {n : Nat} (h : n ≤ 1000) : n < maxLen := Nat.lt_of_le_of_lt h (by decide)

def knKey (e : Ent) : Value := .agg #[.string e.k, .string e.n, .string e.d, .string e.s]
theorem knKey_inj {e : Ent} {k n d s : ByteArray} (h : knKey e = .agg #[.string k, .string n, .string d, .string s]) : e.k = k ∧ e.n = n ∧ e.d = d ∧ e.s = s := by
  unfold knKey at h
  injection h with h1
  have h2 : [Value.string e.k, Value.string e.n, Value.string e.d, Value.string e.s] = [Value.string k, Value.string n, Value.string d, Value.string s] := congrArg Array.toList h1
  injection h2 with x1 h2
  injection h2 with x2 h2
  injection h2 with x3 h2
  injection h2 with x4 _
  injection x1 with x1
  injection x2 with x2
  injection x3 with x3
  injection x4 with x4
  exact ⟨x1, x2, x3, x4⟩
def knP (e : Ent) : Value × Value := (knKey e, .string e.t)
theorem useKeyedO : Keyed Try.prog 47 := Keyed.of_law (deep_law_laid (show laidOutB Try.prog = true by kernel_rfl) (m := 3) (by omega) (of_decide_eq_true (by kernel_rfl)) (by kernel_rfl) (by kernel_rfl))
theorem use_keyO (a b c d : ByteArray) (ha : a.size ≤ maxLen) (hb : b.size ≤ maxLen) (hc : c.size ≤ maxLen) (hd : d.size ≤ maxLen) : ∃ kl, keyOf Try.prog 47 (.agg #[.string a, .string b, .string c, .string d]) = some kl :=
  keyOf_strs Try.underlying9 (by kernel_rfl) Try.underlying47 (by kernel_rfl) [a, b, c, d] (by intro s hs; simp at hs; rcases hs with rfl | rfl | rfl | rfl <;> assumption) (by kernel_rfl) (by kernel_rfl) (by kernel_rfl) ⟨Try.prog.types.size - 1, by kernel_rfl⟩
theorem zeroStrV (w : World) : (zeroValue 9).run Try.prog w = .ok (.string ⟨#[]⟩) w := by kernel_rfl
set_option maxRecDepth 100000 in
set_option maxHeartbeats 8000000 in
theorem BoxOpens_w (draws : ByteArray) (ao : Option Addr) (cap : Nat) (l : List ActB) (w : World) (hat : ActsAt w ao l) (hok : ∀ a ∈ l, a.ok) :
    Calls Try.prog 10 #[.string draws, .slice ao l.length cap] w fun e w' => e = .returned (.bool true) ∧ Below w.heap.size w w' := by
  have HAT := Lib.hid hat
  have HOK := Lib.hid hok
  clear hat hok
  by_cases h1 : 8192 < draws.size
  · have g1 : decide ((8192 : Int) < (draws.size : Int)) = true := decide_eq_true (by omega)
    clear h1
    go_enter Try.func10, Try.ntmps10
    go_wp2_with fail
    refine (awake07 _).mono ?_
    rintro e w1 ⟨rfl, hb1⟩
    have HB1 := Lib.hid hb1
    clear hb1
    go_wp2_with fail
    go_ret
    exact ⟨rfl, HB1.out⟩
  have g1 : decide ((8192 : Int) < (draws.size : Int)) = false := decide_eq_false (by omega)
  clear h1
  go_enter Try.func10, Try.ntmps10
  go_wp2_with fail
  refine (awake07 _).mono ?_
  rintro e w1 ⟨rfl, hb1⟩
  have HB1 := Lib.hid hb1
  clear hb1
  go_wp2_with fail
  refine (Ideal_walk draws _).mono ?_
  rintro e w2 ⟨rfl, hx2, hb2⟩
  have HB2 := Lib.hid (bthen HB1.out hb2)
  have HZ1 := Lib.hid HB1.out.size
  have HZ2 := Lib.hid (show w1.heap.size + 1 < w2.heap.size from hx2.1.lt)
  clear hb2
  obtain ⟨mb, hmb⟩ : ∃ mb, mb = w1.heap.size := ⟨_, rfl⟩
  rw [← hmb] at hx2 HZ1 HZ2 ⊢
  have HX2 := Lib.hid hx2
  clear hx2 hmb
  have hmm := @run_makeMap Try.prog
  go_upto_region 8 with fail
  clear hmm
  have hbn : Below w2.heap.size w2 (w2.alloc (.map #[] 0)) := (Below.refl _ _).alloc (Nat.le_refl _) _
  have HT3 := Lib.hid (TabAt.made w2 Try.prog 47)
  have HX3 := Lib.hid (HX2.out.below hbn)
  have HB3 := Lib.hid (bthen HB2.out hbn)
  clear hbn HX2 HB2
  generalize w2.alloc (.map #[] 0) = w3 at HT3 HX3 HB3 ⊢
  generalize w2.heap.size = kb at HT3 HZ2 ⊢
  go_loopw [7] (fun i wr => ∃ k : Nat, k ≤ l.length ∧ k ≤ 40 ∧ i = .int .i64 k ∧ ∃ st : BoxSt, st.tab.length ≤ k ∧ GoodB st ∧ Hid (BoxAt wr (mb + 1) mb st) ∧ Hid (TabAt wr Try.prog 47 kb (st.tab.map knP)) ∧ Hid (Below w.heap.size w wr)) (fun i _ => 40 - (intOf i).toNat)
  case atStart => exact ⟨0, Nat.zero_le _, Nat.zero_le _, rfl, ⟨draws, []⟩, Nat.le_refl _, ⟨List.Pairwise.nil, (fun e he => by cases he)⟩, HX3.out, HT3.out, HB3.out⟩
  case round =>
    obtain ⟨k, hk1, hk2, rfl, st, hst, hgood, HBX, HKN, HB⟩ := hrel
    have HG := Lib.hid hgood
    clear hgood
    have hfr := HB.out.size
    rcases Nat.lt_or_ge k l.length with hlt | hge
    · have d1 : decide ((k : Int) < (l.length : Int)) = true := decide_eq_true (by omega)
      rcases Nat.lt_or_ge k 40 with hlt2 | hge2
      · have d2 : decide ((k : Int) < 40) = true := decide_eq_true (by omega)
        obtain ⟨ab, off, rfl, hal, a0, a1, a2, a3, a4⟩ := (HAT.out.below HB.out) k hlt
        have HQO := Lib.hid (HOK.out _ (List.getElem_mem hlt))
        generalize l[k] = q at a0 a1 a2 a3 a4 HQO
        have h0 := Lib.hid a0
        have h1 := Lib.hid a1
        have h2 := Lib.hid a2
        have h3 := Lib.hid a3
        have h4 := Lib.hid a4
        go_wp2_with fail
        refine (large07 q _).mono ?_
        rintro e w2 ⟨rfl, hb2⟩
        have HB2 := Lib.hid (bthen HB.out hb2)
        have hal2 : ab < w2.heap.size := Nat.lt_of_lt_of_le hal hb2.size
        clear a0 a1 a2 a3 a4
        have a0 := (hb2.cell (p := ⟨ab, off + k * 5, none⟩) hal).trans h0.out
        have a1 := (hb2.cell (p := ⟨ab, off + k * 5 + 1, none⟩) hal).trans h1.out
        have a2 := (hb2.cell (p := ⟨ab, off + k * 5 + 2, none⟩) hal).trans h2.out
        have a3 := (hb2.cell (p := ⟨ab, off + k * 5 + 3, none⟩) hal).trans h3.out
        have a4 := (hb2.cell (p := ⟨ab, off + k * 5 + 4, none⟩) hal).trans h4.out
        have HW2 := Lib.hid hb2
        clear hb2 hal
        rcases Bool.eq_false_or_eq_true (largeB q) with hL | hL
        · rw [hL]
          clear hL
          go_wp2_with fail
          go_ret
          exact ⟨rfl, HB2.out⟩
        have HL := Lib.hid hL
        rw [hL]
        clear hL
        go_wp2_with fail
        refine (fixed07 q HQO.out.1 HQO.out.2 HL.out _).mono ?_
        rintro e w3 ⟨rfl, hb3⟩
        have HB3 := Lib.hid (bthen HB2.out hb3)
        have HW3 := Lib.hid (bthen HW2.out hb3)
        obtain ⟨x, hx⟩ : ∃ x, x = fixedB q := ⟨_, rfl⟩
        obtain ⟨hz1, hz2, hz3, hz4⟩ := fixedB_sizes HL.out
        rw [← hx] at hz1 hz2 hz3 hz4 ⊢
        clear hb3 a0 a1 a2 a3 a4 hx HB2 hal2 HW2
        unfold actV
        have hz0 := RowAt.new w3 #[.int .i64 0, .string ⟨#[]⟩, .string ⟨#[]⟩, .string ⟨#[]⟩, .string ⟨#[]⟩] 44 (0, 0)
        go_upto_region 13 with (with_reducible refine wpList_store_rowTo rfl 44 (.tmp 8) (.tmp 46) rfl rfl w3.heap.size (actC x) ?h1 ?h2 44 #[.int .i64 0, .string ⟨#[]⟩, .string ⟨#[]⟩, .string ⟨#[]⟩, .string ⟨#[]⟩] ?h0 ?h3 ?h4 ?h5 ?_)
        case h0 => exact hz0.out
        case h1 => rfl
        case h2 => rfl
        case h3 => kernel_rfl
        case h4 => rfl
        case h5 => simp [actC, Value.oneCell']
        have hWA : Below w3.heap.size w3 ((w3.alloc (.cells #[.int .i64 0, .string ⟨#[]⟩, .string ⟨#[]⟩, .string ⟨#[]⟩, .string ⟨#[]⟩] 44)).setRow w3.heap.size (actC x)) := Below.setRow ((Below.refl _ _).alloc (Nat.le_refl _) _) (Nat.le_refl _) _
        have HAA := Lib.hid (RowAt.setRow hz0 (actC x))
        have HBA := Lib.hid (bthen HB3.out hWA)
        have HWA := Lib.hid (bthen HW3.out hWA)
        have HXB := Lib.hid (show wr.heap.size ≤ w3.heap.size from HW3.out.size)
        clear hWA hz0 HB3 HW3
        generalize (w3.alloc (.cells #[.int .i64 0, .string ⟨#[]⟩, .string ⟨#[]⟩, .string ⟨#[]⟩, .string ⟨#[]⟩] 44)).setRow w3.heap.size (actC x) = wa at HAA HBA HWA ⊢
        generalize w3.heap.size = xb at HAA HXB ⊢
        unfold actC at HAA
        have HBXA := Lib.hid (HBX.out.below HWA.out)
        have HKNA := Lib.hid (HKN.out.below HWA.out HKN.out.lt)
        have HL1 := Lib.hid (show mb + 1 < wr.heap.size from HBX.out.1.lt)
        have HL2 := Lib.hid HKN.out.lt
        clear HBX HKN HB
        obtain ⟨KEY, hKEY⟩ : ∃ K : Prop, K = ∃ kl, keyOf Try.prog 47 (.agg #[.string x.k, .string x.n, .string x.d, .string x.t]) = some kl := ⟨_, rfl⟩
        by_cases hk0 : x.kind = 0
        · have e0 : (x.kind == 0) = true := by rw [hk0]; rfl
          obtain ⟨r, c, st', hsl⟩ : ∃ r c st', sealB st x.k x.n x.d x.t = (r, c, st') := ⟨_, _, _, rfl⟩
          have HSL := Lib.hid hsl
          clear hk0 hsl hKEY
          have a0 := HAA.out.cell (i := 0) rfl
          have a1 := HAA.out.cell (i := 1) rfl
          have a2 := HAA.out.cell (i := 2) rfl
          have a3 := HAA.out.cell (i := 3) rfl
          have a4 := HAA.out.cell (i := 4) rfl
          go_wp2_with fail
          refine (BSeal_walk (mb + 1) mb st x.k x.n x.d x.t (maxLen_100 hz1) (maxLen_100 hz2) (by omega) _ HBXA.out (lt_maxLen (by omega)) r c st' HSL.out).mono ?_
          rintro e wb ⟨rfl, hxb, hsb⟩
          have HBB := Lib.hid (HBA.out.trans (hsb.below (show ∀ i ∈ [mb + 1, mb], w.heap.size ≤ i by have := HZ1.out; simp; omega) HBA.out.size))
          have HKB := Lib.hid (HKNA.out.beside hsb (show kb ∉ [mb + 1, mb] by have := HZ2.out; simp; omega))
          have HAB := Lib.hid (HAA.out.beside hsb (show xb ∉ [mb + 1, mb] by have := HL1.out; have := HXB.out; simp; omega))
          have HXC := Lib.hid hxb
          clear hxb hsb HBA HKNA HAA HBXA
          clear a0 a1 a2 a3 a4
          have a0 := HAB.out.cell (i := 0) rfl
          have a1 := HAB.out.cell (i := 1) rfl
          have a2 := HAB.out.cell (i := 2) rfl
          have a3 := HAB.out.cell (i := 3) rfl
          have a4 := HAB.out.cell (i := 4) rfl
          have HG2 := Lib.hid (HG.out.seal HSL.out)
          rcases seal_cases HSL.out with ⟨hc, rfl, _⟩ | ⟨rfl, rfl, hmem⟩ | ⟨rfl, hf, hq1, hq2, hq3, hst'⟩
          · have e1 : (c == 0) = false := beq_eq_false_iff_ne.2 hc
            clear hc
            go_wp2_with fail
            go_roundw
            case rel => exact ⟨k + 1, by omega, by omega, by go_num, st', by omega, HG2.out, HXC.out, HKB.out, HBB.out⟩
            case measure => simp [intOf]; omega
          · have HIN := Lib.hid (show ((.agg #[.string x.k, .string x.n, .string x.d, .string r], .string x.t) : Value × Value) ∈ st'.tab.map knP from List.mem_map.2 ⟨_, hmem, rfl⟩)
            have HLT := Lib.hid (show (st'.tab.map knP).length < maxLen by rw [List.length_map]; exact lt_maxLen (by omega))
            clear hmem
            go_wp2_with (at_mapUpdate; refine wpList_put_same _ rfl _ _ _ 41 rfl 47 9 useKeyedO Try.underlying41 kb _ rfl HKB.out HLT.out (.agg #[.string x.k, .string x.n, .string x.d, .string r]) (.string x.t) rfl rfl HIN.out ?_; intro wc htc htn)
            have HKC := Lib.hid htc
            have HSC := Lib.hid (Beside.turned (S := [kb]) (b := kb) (Beside.refl [kb] _) (by simp) htn)
            have HBC := Lib.hid (HBB.out.trans (HSC.out.below (show ∀ i ∈ [kb], w.heap.size ≤ i by have := HZ1.out; have := HZ2.out; simp; omega) HBB.out.size))
            have HXD := Lib.hid (HXC.out.beside HSC.out (show mb + 1 ∉ [kb] by have := HZ2.out; simp; omega) (show mb ∉ [kb] by have := HZ2.out; simp; omega))
            clear htc htn
            go_wp2_with fail
            go_roundw
            case rel => exact ⟨k + 1, by omega, by omega, by go_num, st', by omega, HG2.out, HXD.out, HKC.out, HBC.out⟩
            case measure => simp [intOf]; omega
          · have HOUT := Lib.hid (show ∀ p ∈ st.tab.map knP, p.1 ≠ .agg #[.string x.k, .string x.n, .string x.d, .string r] by
              intro p hp hh
              obtain ⟨e, he, rfl⟩ := List.mem_map.1 hp
              obtain ⟨m1, m2, _, _⟩ := knKey_inj hh
              exact findB_none hf e he ⟨m1, m2⟩)
            have HLT := Lib.hid (show (st.tab.map knP).length < maxLen by rw [List.length_map]; exact lt_maxLen (by omega))
            have hrz : r.size ≤ 600 := by
              have := (HG2.out.may ⟨x.k, x.n, x.d, x.t, r⟩ (by rw [hst']; simp)).2
              simp only at this
              omega
            have HKEY := Lib.hid (use_keyO x.k x.n x.d r (maxLen_100 hz1) (maxLen_100 hz2) (maxLen_500 hz3) (Nat.le_trans hrz (by decide)))
            have HLEN := Lib.hid (show st'.tab.length ≤ k + 1 by rw [hst']; simp; omega)
            have HMAP := Lib.hid (show st'.tab.map knP = st.tab.map knP ++ [(.agg #[.string x.k, .string x.n, .string x.d, .string r], .string x.t)] by rw [hst', List.map_append]; rfl)
            clear hf hst' hrz hq1 hq2 hq3
            go_wp2_with (at_mapUpdate; refine wpList_put_new _ rfl _ _ _ 41 rfl 47 9 useKeyedO Try.underlying41 kb _ rfl HKB.out HLT.out (.agg #[.string x.k, .string x.n, .string x.d, .string r]) (.string x.t) rfl rfl HKEY.out HOUT.out ?_; intro wc htc htn)
            have HKC := Lib.hid htc
            have HSC := Lib.hid (Beside.turned (S := [kb]) (b := kb) (Beside.refl [kb] _) (by simp) htn)
            have HBC := Lib.hid (HBB.out.trans (HSC.out.below (show ∀ i ∈ [kb], w.heap.size ≤ i by have := HZ1.out; have := HZ2.out; simp; omega) HBB.out.size))
            have HXD := Lib.hid (HXC.out.beside HSC.out (show mb + 1 ∉ [kb] by have := HZ2.out; simp; omega) (show mb ∉ [kb] by have := HZ2.out; simp; omega))
            clear htc htn
            go_wp2_with fail
            go_roundw
            case rel => exact ⟨k + 1, by omega, by omega, by go_num, st', HLEN.out, HG2.out, HXD.out, (by rw [HMAP.out]; exact HKC.out), HBC.out⟩
            case measure => simp [intOf]; omega
        · have e0 : (x.kind == 0) = false := beq_eq_false_iff_ne.2 hk0
          clear hk0 hKEY
          obtain ⟨r, c, hol⟩ : ∃ r c, openB st x.k x.n x.d x.t = (r, c) := ⟨_, _, rfl⟩
          have HOL := Lib.hid hol
          clear hol
          have a0 := HAA.out.cell (i := 0) rfl
          have a1 := HAA.out.cell (i := 1) rfl
          have a2 := HAA.out.cell (i := 2) rfl
          have a3 := HAA.out.cell (i := 3) rfl
          have a4 := HAA.out.cell (i := 4) rfl
          go_wp2_with fail
          refine (BOpen_walk (mb + 1) mb st x.k x.n x.d x.t (maxLen_100 hz1) (maxLen_100 hz2) (by omega) _ HBXA.out r c HOL.out).mono ?_
          rintro e wb ⟨rfl, hbb⟩
          have HBB := Lib.hid (bthen HBA.out hbb)
          have HKB := Lib.hid (HKNA.out.below hbb HKNA.out.lt)
          have HAB := Lib.hid (HAA.out.below hbb HAA.out.lt)
          have HXC := Lib.hid (HBXA.out.below hbb)
          clear hbb HBA HKNA HAA HBXA
          clear a0 a1 a2 a3 a4
          have a0 := HAB.out.cell (i := 0) rfl
          have a1 := HAB.out.cell (i := 1) rfl
          have a2 := HAB.out.cell (i := 2) rfl
          have a3 := HAB.out.cell (i := 3) rfl
          have a4 := HAB.out.cell (i := 4) rfl
          by_cases hin : ∃ e ∈ st.tab, e.k = x.k ∧ e.n = x.n ∧ e.d = x.d ∧ e.s = x.t
          · obtain ⟨e, he, m1, m2, m3, m4⟩ := hin
            have ho := open_in HG.out he
            rw [m1, m2, m3, m4, HOL.out] at ho
            injection ho with ho1 ho2
            subst ho2
            have HIN := Lib.hid (show ((.agg #[.string x.k, .string x.n, .string x.d, .string x.t], .string r) : Value × Value) ∈ st.tab.map knP from List.mem_map.2 ⟨e, he, by rw [ho1]; unfold knP knKey; rw [m1, m2, m3, m4]⟩)
            have hrr := seq_self r
            clear he m1 m2 m3 m4 ho1
            go_wp2_with (at_lookup; refine wpList_look_in _ rfl _ _ 41 rfl 47 9 useKeyedO Try.underlying41 (zeroStrV _) kb _ rfl HKB.out _ _ rfl HIN.out ?_)
            go_roundw
            case rel => exact ⟨k + 1, by omega, by omega, by go_num, st, by omega, HG.out, HXC.out, HKB.out, HBB.out⟩
            case measure => simp [intOf]; omega
          · obtain ⟨c2, hc2, ho⟩ := open_out (st := st) (k := x.k) (n := x.n) (d := x.d) (s := x.t) (fun e he hh => hin ⟨e, he, hh⟩)
            rw [HOL.out] at ho
            injection ho with ho1 ho2
            subst ho1 ho2
            have e1 : (c == 0) = false := beq_eq_false_iff_ne.2 hc2
            have HOUT := Lib.hid (show ∀ p ∈ st.tab.map knP, p.1 ≠ .agg #[.string x.k, .string x.n, .string x.d, .string x.t] by
              intro p hp hh
              obtain ⟨e, he, rfl⟩ := List.mem_map.1 hp
              exact hin ⟨e, he, knKey_inj hh⟩)
            have HKEY := Lib.hid (use_keyO x.k x.n x.d x.t (maxLen_100 hz1) (maxLen_100 hz2) (maxLen_500 hz3) (maxLen_500 hz4))
            have hrr := seq_self ⟨#[]⟩
            clear hc2 hin
            go_wp2_with (at_lookup; refine wpList_look_out _ rfl _ _ 41 rfl 47 9 useKeyedO Try.underlying41 (zeroStrV _) kb _ rfl HKB.out _ rfl HKEY.out HOUT.out ?_)
            go_roundw
            case rel => exact ⟨k + 1, by omega, by omega, by go_num, st, by omega, HG.out, HXC.out, HKB.out, HBB.out⟩
            case measure => simp [intOf]; omega
      · have d2 : decide ((k : Int) < 40) = false := decide_eq_false (by omega)
        go_wp2_with (first | (refine wpList_range_tab _ rfl _ 41 rfl 47 9 useKeyedO Try.underlying41 kb _ rfl HKN.out ?_; intro w5 hrg hb5))
        have HRG := Lib.hid hrg
        have HB5 := Lib.hid (bthen HB.out hb5)
        have HX5 := Lib.hid (HBX.out.below hb5)
        have HNR := Lib.hid (show kb < wr.heap.size from HKN.out.lt)
        clear hrg hb5 HKN HBX
        generalize wr.heap.size = rr at HRG HNR ⊢
        go_wp2_with fail
        go_frame
        go_loopw [15] (fun _ wq => ∃ cnt : Nat, Hid (RangesAt wq Try.prog 47 kb rr (st.tab.map fun e => (knKey e, Value.string e.t)) cnt) ∧ Hid (BoxAt wq (mb + 1) mb st) ∧ Hid (Below w.heap.size w wq)) (fun _ wq => wq.rangeLeft kb rr)
        case atStart => exact ⟨_, HRG.out, HX5.out, HB5.out⟩
        case round =>
          obtain ⟨cnt, HRQ, HXQ, HBQ⟩ := hrel
          go_wp2_with (refine wpList_next_tab _ rfl _ rfl 47 useKeyedO knKey (fun e => Value.string e.t) st.tab kb rr cnt rfl HRQ.out ?_ ?_)
          · have hlk := fun ty => run_len_tab HRQ.out.tab Try.underlying41 ty
            go_wp2_with fail
            refine (BLen_walk (mb + 1) mb st _ HXQ.out).mono ?_
            rintro e w7 ⟨rfl, rfl⟩
            have hle : decide ((st.tab.length : Int) ≤ ((st.tab.map fun e => (knKey e, Value.string e.t)).length : Int)) = true := decide_eq_true (by rw [List.length_map]; exact Int.le_refl _)
            go_wp2_with fail
            go_ret
            exact ⟨rfl, HBQ.out⟩
          · intro e w6 cnt' hmem hrg6 hlt6 hbs6 hsz6 hen6
            have HM := Lib.hid hmem
            have HRG6 := Lib.hid hrg6
            have HLT6 := Lib.hid hlt6
            have HX6 := Lib.hid (HXQ.out.beside hbs6 (show mb + 1 ∉ [rr] by have := HNR.out; have := HZ2.out; simp; omega) (show mb ∉ [rr] by have := HNR.out; have := HZ2.out; simp; omega))
            have HB6 := Lib.hid (HBQ.out.trans (hbs6.below (show ∀ i ∈ [rr], w.heap.size ≤ i by have := HZ1.out; have := HZ2.out; have := HNR.out; simp; omega) HBQ.out.size))
            have HSZ6 := Lib.hid (show rr < w6.heap.size from hrg6.lt)
            clear hmem hrg6 hlt6 hbs6 hsz6
            unfold knKey at hen6
            have hb7 : Below w6.heap.size w6 (w6.alloc (.cells #[.string e.k, .string e.n, .string e.d, .string e.s] 47)) := (Below.refl _ _).alloc (Nat.le_refl _) _
            have HX7 := Lib.hid (HX6.out.below hb7)
            have HB7 := Lib.hid (bthen HB6.out hb7)
            have HRG7 := Lib.hid (HRG6.out.of_blocks (hb7.block kb (by have := HSZ6.out; have := HNR.out; omega)) (hb7.block rr HSZ6.out))
            clear hb7
            have ho := open_in HG.out HM.out
            obtain ⟨hy1, hy2⟩ := HG.out.may e HM.out
            have hy3 : e.k.size = 32 ∧ e.n.size = 12 ∧ e.d.size ≤ 4096 ∧ (0 : Int) ≤ e.t.size ∧ (e.t.size : Int) ≤ 16384 := of_decide_eq_true hy1
            have HSK := Lib.hid (show e.k.size ≤ maxLen by rw [hy3.1]; decide)
            have HSN := Lib.hid (show e.n.size ≤ maxLen by rw [hy3.2.1]; decide)
            have HSS := Lib.hid (show e.s.size ≤ 140737488400000 by omega)
            have HO := Lib.hid ho
            clear ho hy1 hy2 hy3
            go_wp2_with fail
            refine (BOpen_walk (mb + 1) mb st e.k e.n e.d e.s HSK.out HSN.out HSS.out _ HX7.out e.t 0 HO.out).mono ?_
            rintro e9 w8 ⟨rfl, hb8⟩
            have HX8 := Lib.hid (HX7.out.below hb8)
            have HB8 := Lib.hid (bthen HB7.out hb8)
            have HRG8 := Lib.hid (HRG7.out.of_blocks (hb8.block kb (by have := HRG7.out.lt; have := HNR.out; omega)) (hb8.block rr HRG7.out.lt))
            have htt := seq_self e.t
            clear hb8 hen6
            go_wp2_with fail
            go_roundw
            case rel => exact ⟨cnt', HRG8.out, HX8.out, HB8.out⟩
            case measure => rw [HRG8.out.left, HRQ.out.left]; exact HLT6.out
    · have d1 : decide ((k : Int) < (l.length : Int)) = false := decide_eq_false (by omega)
      go_wp2_with (first | (refine wpList_range_tab _ rfl _ 41 rfl 47 9 useKeyedO Try.underlying41 kb _ rfl HKN.out ?_; intro w5 hrg hb5))
      have HRG := Lib.hid hrg
      have HB5 := Lib.hid (bthen HB.out hb5)
      have HX5 := Lib.hid (HBX.out.below hb5)
      have HNR := Lib.hid (show kb < wr.heap.size from HKN.out.lt)
      clear hrg hb5 HKN HBX
      generalize wr.heap.size = rr at HRG HNR ⊢
      go_wp2_with fail
      go_frame
      go_loopw [15] (fun _ wq => ∃ cnt : Nat, Hid (RangesAt wq Try.prog 47 kb rr (st.tab.map fun e => (knKey e, Value.string e.t)) cnt) ∧ Hid (BoxAt wq (mb + 1) mb st) ∧ Hid (Below w.heap.size w wq)) (fun _ wq => wq.rangeLeft kb rr)
      case atStart => exact ⟨_, HRG.out, HX5.out, HB5.out⟩
      case round =>
        obtain ⟨cnt, HRQ, HXQ, HBQ⟩ := hrel
        go_wp2_with (refine wpList_next_tab _ rfl _ rfl 47 useKeyedO knKey (fun e => Value.string e.t) st.tab kb rr cnt rfl HRQ.out ?_ ?_)
        · have hlk := fun ty => run_len_tab HRQ.out.tab Try.underlying41 ty
          go_wp2_with fail
          refine (BLen_walk (mb + 1) mb st _ HXQ.out).mono ?_
          rintro e w7 ⟨rfl, rfl⟩
          have hle : decide ((st.tab.length : Int) ≤ ((st.tab.map fun e => (knKey e, Value.string e.t)).length : Int)) = true := decide_eq_true (by rw [List.length_map]; exact Int.le_refl _)
          go_wp2_with fail
          go_ret
          exact ⟨rfl, HBQ.out⟩
        · intro e w6 cnt' hmem hrg6 hlt6 hbs6 hsz6 hen6
          have HM := Lib.hid hmem
          have HRG6 := Lib.hid hrg6
          have HLT6 := Lib.hid hlt6
          have HX6 := Lib.hid (HXQ.out.beside hbs6 (show mb + 1 ∉ [rr] by have := HNR.out; have := HZ2.out; simp; omega) (show mb ∉ [rr] by have := HNR.out; have := HZ2.out; simp; omega))
          have HB6 := Lib.hid (HBQ.out.trans (hbs6.below (show ∀ i ∈ [rr], w.heap.size ≤ i by have := HZ1.out; have := HZ2.out; have := HNR.out; simp; omega) HBQ.out.size))
          have HSZ6 := Lib.hid (show rr < w6.heap.size from hrg6.lt)
          clear hmem hrg6 hlt6 hbs6 hsz6
          unfold knKey at hen6
          have hb7 : Below w6.heap.size w6 (w6.alloc (.cells #[.string e.k, .string e.n, .string e.d, .string e.s] 47)) := (Below.refl _ _).alloc (Nat.le_refl _) _
          have HX7 := Lib.hid (HX6.out.below hb7)
          have HB7 := Lib.hid (bthen HB6.out hb7)
          have HRG7 := Lib.hid (HRG6.out.of_blocks (hb7.block kb (by have := HSZ6.out; have := HNR.out; omega)) (hb7.block rr HSZ6.out))
          clear hb7
          have ho := open_in HG.out HM.out
          obtain ⟨hy1, hy2⟩ := HG.out.may e HM.out
          have hy3 : e.k.size = 32 ∧ e.n.size = 12 ∧ e.d.size ≤ 4096 ∧ (0 : Int) ≤ e.t.size ∧ (e.t.size : Int) ≤ 16384 := of_decide_eq_true hy1
          have HSK := Lib.hid (show e.k.size ≤ maxLen by rw [hy3.1]; decide)
          have HSN := Lib.hid (show e.n.size ≤ maxLen by rw [hy3.2.1]; decide)
          have HSS := Lib.hid (show e.s.size ≤ 140737488400000 by omega)
          have HO := Lib.hid ho
          clear ho hy1 hy2 hy3
          go_wp2_with fail
          refine (BOpen_walk (mb + 1) mb st e.k e.n e.d e.s HSK.out HSN.out HSS.out _ HX7.out e.t 0 HO.out).mono ?_
          rintro e9 w8 ⟨rfl, hb8⟩
          have HX8 := Lib.hid (HX7.out.below hb8)
          have HB8 := Lib.hid (bthen HB7.out hb8)
          have HRG8 := Lib.hid (HRG7.out.of_blocks (hb8.block kb (by have := HRG7.out.lt; have := HNR.out; omega)) (hb8.block rr HRG7.out.lt))
          have htt := seq_self e.t
          clear hb8 hen6
          go_wp2_with fail
          go_roundw
          case rel => exact ⟨cnt', HRG8.out, HX8.out, HB8.out⟩
          case measure => rw [HRG8.out.left, HRQ.out.left]; exact HLT6.out
end Go.Proofs.Ytfglhemmccihfaa
