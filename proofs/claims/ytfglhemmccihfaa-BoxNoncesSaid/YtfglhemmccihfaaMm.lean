/-
The program's mac: New, Add, Sum.
The program's mac: Sum, Check, Extract, Expand, Derive.
-/
import Derived.Laws.EntriesVeiled
import Derived.Test.YtfglhemmccihfaaMa
import Derived.Test.YtfglhemmccihfaaMb
import Derived.Test.YtfglhemmccihfaaMl
namespace Go.Proofs.Ytfglhemmccihfaa
open Go.RowKit

theorem Repeat_as (x : UInt8) (n : Nat) (h : n ≤ 1048576) (q : ByteArray) (hq : Is q (List.replicate n x)) (w : World) :
    Calls Try.prog 88 #[.string ⟨#[x]⟩, .int .i64 n] w fun e w' => e = .returned (.string q) ∧ Below w.heap.size w w' :=
  (Repeat_walk ⟨#[x]⟩ n w (by omega) (by show 1 * n ≤ _; omega)).mono fun e w' ⟨h1, h2⟩ => ⟨by
    rw [h1, hq.eq]
    show Ending.returned (.string ⟨(Lib.repeatL [x] n).toArray⟩) = _
    rw [repeatL_one], h2⟩
theorem Xor_as (a b : ByteArray) (h : a.size = b.size) (hm : a.size ≤ 140737488355328) (q : ByteArray) (hq : Is q (xorL a.data.toList b.data.toList)) (w : World) :
    Calls Try.prog 50 #[.string a, .string b] w fun e w' => e = .returned (.tuple #[.string q, .int .i64 0]) ∧ Below w.heap.size w w' :=
  (Xor_ok a b h hm w).mono fun e w' ⟨r, h1, h2, h3⟩ => ⟨by rw [h1, h2.inj hq], h3⟩
theorem Fill_as (s : ByteArray) (n : Int) (hs : s.size ≤ 140737488351232) (hn : n ≤ 1048576) (hn0 : -9223372036854775808 ≤ n) (q : ByteArray) (hq : Is q (fillL s.data.toList n)) (w : World) :
    Calls Try.prog 67 #[.string s, .int .i64 n] w fun e w' => e = .returned (.string q) ∧ Below w.heap.size w w' :=
  (Fill_walk s n hs hn hn0 w).mono fun e w' ⟨r, h1, h2, h3⟩ => ⟨by rw [h1, h2.inj hq], h3⟩
set_option maxRecDepth 100000 in
set_option maxHeartbeats 1000000 in
theorem turned_walk (x : UInt8) (n : Int) (hx : bvi x.toBitVec = n) (cb : Nat) (K : ByteArray) (hK : K.size = 64) (q : ByteArray) (hq : Is q (K.data.toList.map (· ^^^ x))) (w : World) (c0 : w.cell? ⟨cb, 0, none⟩ = some (.string K)) :
    Calls Try.prog 119 #[.int .u8 n, .pointer (some ⟨cb, 0, none⟩)] w fun e w' => e = .returned (.string q) ∧ Below w.heap.size w w' := by
  obtain ⟨rp, hrp⟩ : ∃ rp, Is rp (List.replicate 64 x) := ⟨_, Is.of _⟩
  have HRP := Lib.hid hrp
  have HSZ := Lib.hid (show K.size = rp.size by rw [hrp.size, hK]; simp)
  have HKZ := Lib.hid hK
  have HQ := Lib.hid (show Is q (xorL K.data.toList rp.data.toList) by
    rw [hrp.out, ← hK, (Is.self K).size, xor_same]; exact hq)
  have hcb := cell_lt c0
  have HC := Lib.hid c0
  rw [← hx]
  clear hrp hK hq c0 hx
  go_enter Try.func119, Try.ntmps119
  go_wp2_with fail
  refine region_anc (by kernel_rfl) [7, 8, 9, 10, 11, 12, 6, 13, 14, 4, 5]
    (fun i x_ => match i with
      | 0 => x_ = .string K
      | 1 => x_ = .int .u8 (bvi x.toBitVec)
      | 2 => x_ = .slice (some ⟨w.heap.size, 0, none⟩) 1 1
      | 3 => x_ = .string ((ByteArray.mk #[x]))
      | 4 => x_ = .string rp
      | 5 => x_ = .tuple #[.string q, .int .i64 (0)]
      | 6 => x_ = .tuple #[.string q, .int .i64 (0)]
      | 7 => x_ = .string q
      | 8 => x_ = .int .i64 (0)
      | 9 => x_ = .string q
      | 10 => x_ = .int .i64 (0)
      | _ => True) (fun L _ w' => Below w.heap.size w w' ∧ (L 2 = false → w' = w.drew) ∧ (L 2 = true → L 4 = false → w' = w.drew.alloc (.cells #[.int .u8 (bvi x.toBitVec)] 5))) (by kernel_rfl) (by kernel_rfl) rfl (by kernel_rfl) (⟨(Below.refl _ _).drew, fun _ => rfl, (fun h => by cases h)⟩) ?_ ?_
  · refine StepsOk2.cons ?_ (StepsOk2.cons ?_ (StepsOk2.cons ?_ (StepsOk2.cons ?_ (StepsOk2.cons ?_ (StepsOk2.cons ?_ (StepsOk2.cons ?_ (StepsOk2.cons ?_ (StepsOk2.cons ?_ (StepsOk2.cons ?_ (StepsOk2.cons ?_ StepsOk2.nil))))))))))
    · intro L a w4 Kx hl hsz hs ht hr he hcl hK
      refine step_plain rfl ?_
      have h1 : a.tmps.getD 1 undef = .pointer (some ⟨cb, 0, none⟩) := (hs 1 (by decide)).trans rfl
      have hc := (hr.1.cell (p := ⟨cb, 0, none⟩) hcb).trans HC.out
      go_simp
      exact hK _ _ rfl (by simpa using hr)
    · intro L a w4 Kx hl hsz hs ht hr he hcl hK
      refine step_plain rfl ?_
      have h0 : a.tmps.getD 0 undef = .int .u8 (bvi x.toBitVec) := (hs 0 (by decide)).trans rfl
      go_simp
      exact hK _ _ rfl (by simpa using hr)
    · intro L a w4 Kx hl hsz hs ht hr he hcl hK
      refine step_plain rfl ?_
      have h8 : a.tmps.getD 8 undef = .int .u8 (bvi x.toBitVec) := ht 1 (he 1 (by kernel_rfl)) 8 rfl
      have hx4 : L 4 = false := by
        cases hy : L 4 with
        | false => rfl
        | true => have := hcl 3 2 (by kernel_rfl) (hcl 4 3 (by kernel_rfl) hy); rw [hl] at this; cases this
      have hw4 := hr.2.1 hl
      subst hw4
      obtain ⟨i0, hi, hz0, hz1, hz2⟩ := info_parts infoU8
      refine wp_buildSlice 32 5 1 _ rfl #[.int .u8 (bvi x.toBitVec)] i0 (.int .u8 0) Try.underlying32 hi hz0 (by rw [hz1]; decide) (by rw [hz1]; decide) ?_ (hK _ _ rfl ⟨below_alloc' hr.1 _, fun h => ?_, fun _ _ => rfl⟩)
      · rw [hz1, Array.toList_map]
        show Instr.fill _ _ [(0, a.tmps.getD 8 undef)] = _
        rw [h8]
        kernel_rfl
      · have h' : (L 2 || true) = false := h
        rw [Bool.or_true] at h'
        cases h'
    · intro L a w4 Kx hl hsz hs ht hr he hcl hK
      refine step_plain rfl ?_
      have h9 : a.tmps.getD 9 undef = .slice (some ⟨w.heap.size, 0, none⟩) 1 1 := ht 2 (he 2 (by kernel_rfl)) 9 rfl
      have hx : L 4 = false := by
        cases hy : L 4 with
        | false => rfl
        | true => have := hcl 4 3 (by kernel_rfl) hy; rw [hl] at this; cases this
      have hw4 := hr.2.2 (he 2 (by kernel_rfl)) hx
      have hcv : (convert 32 9 (.slice (some ⟨w.heap.size, 0, none⟩) 1 1)).run Try.prog w4 = .ok (.string ⟨#[x]⟩) w4 := by
        rw [hw4]
        exact run_str_one0 w.drew 32 5 Try.underlying32 Try.underlying5 9 Try.underlying9 x.toBitVec
      clear hw4
      go_simp
      exact hK _ _ rfl (by simpa using hr)
    · intro L a w4 Kx hl hsz hs ht hr he hcl hK
      refine step_plain rfl ?_
      have h10 : a.tmps.getD 10 undef = .string ((ByteArray.mk #[x])) := ht 3 (he 3 (by kernel_rfl)) 10 rfl
      go_simp
      refine (Repeat_as x 64 (by decide) rp HRP.out _).mono ?_
      rintro e w5 ⟨rfl, hb5⟩
      refine hK _ _ rfl ⟨hr.1.trans (hb5.mono hr.1.size), fun h => ?_, fun _ h => ?_⟩
      · have h' : (L 2 || false) = false := h
        rw [(hcl 3 2 (by kernel_rfl) (he 3 (by kernel_rfl)))] at h'
        cases h'
      · have h' : (L 4 || true) = false := h
        rw [Bool.or_true] at h'
        cases h'
    · intro L a w4 Kx hl hsz hs ht hr he hcl hK
      refine step_plain rfl ?_
      have h7 : a.tmps.getD 7 undef = .string K := ht 0 (he 0 (by kernel_rfl)) 7 rfl
      have h11 : a.tmps.getD 11 undef = .string rp := ht 4 (he 4 (by kernel_rfl)) 11 rfl
      go_simp
      refine (Xor_as K rp HSZ.out (by rw [HKZ.out]; decide) q HQ.out _).mono ?_
      rintro e w5 ⟨rfl, hb5⟩
      refine hK _ _ rfl ⟨hr.1.trans (hb5.mono hr.1.size), fun h => ?_, fun _ h => ?_⟩
      · have h' : (L 2 || false) = false := h
        rw [(hcl 3 2 (by kernel_rfl) (hcl 4 3 (by kernel_rfl) (he 4 (by kernel_rfl))))] at h'
        cases h'
      · have h' : (L 4 || false) = false := h
        rw [(he 4 (by kernel_rfl))] at h'
        cases h'
    · intro L a w4 Kx hl hsz hs ht hr he hcl hK
      refine step_plain rfl ?_
      have h12 : a.tmps.getD 12 undef = .tuple #[.string q, .int .i64 (0)] := ht 5 (he 5 (by kernel_rfl)) 12 rfl
      go_simp
      exact hK _ _ rfl (by simpa using hr)
    · intro L a w4 Kx hl hsz hs ht hr he hcl hK
      refine step_plain rfl ?_
      have h6 : a.tmps.getD 6 undef = .tuple #[.string q, .int .i64 (0)] := ht 6 (he 6 (by kernel_rfl)) 6 rfl
      go_simp
      exact hK _ _ rfl (by simpa using hr)
    · intro L a w4 Kx hl hsz hs ht hr he hcl hK
      refine step_plain rfl ?_
      have h6 : a.tmps.getD 6 undef = .tuple #[.string q, .int .i64 (0)] := ht 6 (he 6 (by kernel_rfl)) 6 rfl
      go_simp
      exact hK _ _ rfl (by simpa using hr)
    · intro L a w4 Kx hl hsz hs ht hr he hcl hK
      refine step_plain rfl ?_
      have h13 : a.tmps.getD 13 undef = .string q := ht 7 (he 7 (by kernel_rfl)) 13 rfl
      go_simp
      exact hK _ _ rfl (by simpa using hr)
    · intro L a w4 Kx hl hsz hs ht hr he hcl hK
      refine step_plain rfl ?_
      have h14 : a.tmps.getD 14 undef = .int .i64 (0) := ht 8 (he 8 (by kernel_rfl)) 14 rfl
      go_simp
      exact hK _ _ rfl (by simpa using hr)
  · intro f L w4 hf hall hr
    have h4 : f 4 = .string q := hf 9 (by decide) 4 rfl
    have HB := Lib.hid hr.1
    simp only [List.foldl, Act.put, List.setIfInBounds_toArray, List.set_cons_zero, List.set_cons_succ]
    rw [h4]
    clear hf h4
    generalize f 7 = z7
    generalize f 8 = z8
    generalize f 9 = z9
    generalize f 10 = z10
    generalize f 11 = z11
    generalize f 12 = z12
    generalize f 6 = z6
    generalize f 13 = z13
    generalize f 14 = z14
    generalize f 5 = z5
    clear hall hr
    go_wp2_with fail
    go_ret
    exact ⟨rfl, HB.out⟩

def macV (cb : Nat) : Value := .func (.func 119) #[] #[.pointer (some ⟨cb, 0, none⟩)]
/-- Block b is a Mac by the key, to which the text t was added; all of it lies from block B on. -/
def MacAt (w : World) (B b : Nat) (key t : List UInt8) : Prop := ∃ (cb hb : Nat) (K : ByteArray), (B ≤ b ∧ B ≤ cb ∧ B ≤ hb ∧ b ≠ hb ∧ cb ≠ hb) ∧ Is K (padK key) ∧ RowAt w b #[macV cb, .pointer (some ⟨hb, 0, none⟩)] 148 (0, 0) ∧ RowAt w cb #[.string K] 9 (0, 0) ∧ HashAt w hb (turnK key 54 ++ t)
theorem MacAt.below {w w' : World} {B b : Nat} {key t : List UInt8} (h : MacAt w B b key t) (hb : Below w.heap.size w w') : MacAt w' B b key t := by
  obtain ⟨cb, hc, K, h1, h2, h3, h4, h5⟩ := h
  exact ⟨cb, hc, K, h1, h2, h3.below hb h3.lt, h4.below hb h4.lt, h5.below hb h5.lt⟩
theorem RowAt.only {w w' : World} {g c : Nat} {cs : Array Value} {T : TypeId} {fz : Nat × Nat} (h : RowAt w g cs T fz) (ho : Only c w w') (hne : g ≠ c) : RowAt w' g cs T fz := (ho.block g h.lt hne).trans h
set_option maxRecDepth 100000 in
set_option maxHeartbeats 1000000 in
theorem MacAdd_walk (B b : Nat) (key t : List UInt8) (text : ByteArray) (htx : text.size ≤ 140737488351232) (w : World) (h : MacAt w B b key t) (hB : B ≤ w.heap.size) :
    Calls Try.prog 105 #[.pointer (some ⟨b, 0, none⟩), .string text] w fun e w' => e = .returned (.tuple #[]) ∧ MacAt w' B b key (t ++ text.data.toList) ∧ Below B w w' := by
  obtain ⟨cb, hb, K, ⟨b1, b2, b3, b4, b5⟩, hK, h1, h2, h3⟩ := h
  have c1 := h1.cell (i := 1) rfl
  have HK := Lib.hid hK
  have H1 := Lib.hid h1
  have H2 := Lib.hid h2
  have H3 := Lib.hid h3
  clear hK h1 h2 h3
  go_enter Try.func105, Try.ntmps105
  go_wp2_with fail
  refine (HAdd_walk hb _ text htx _ H3.out).mono ?_
  rintro e w2 ⟨rfl, h4, ho⟩
  have H4 := Lib.hid (show MacAt w2 B b key (t ++ text.data.toList) from ⟨cb, hb, K, ⟨b1, b2, b3, b4, b5⟩, HK.out, H1.out.only ho b4, H2.out.only ho b5, by rw [← List.append_assoc]; exact h4⟩)
  have HB := Lib.hid (ho.below b3 hB)
  clear h4 ho c1
  go_wp2_with fail
  go_end0
  exact ⟨rfl, H4.out, HB.out⟩
set_option maxRecDepth 100000 in
set_option maxHeartbeats 2000000 in
theorem MacSum_walk (B b : Nat) (key t : List UInt8) (_ht : t.length ≤ 140737488351000) (q : ByteArray) (hq : Is q (macL key t)) (w : World) (h : MacAt w B b key t) :
    Calls Try.prog 106 #[.pointer (some ⟨b, 0, none⟩)] w fun e w' => e = .returned (.string q) ∧ Below w.heap.size w w' := by
  obtain ⟨cb, hb, K, _, hK, h1, h2, h3⟩ := h
  obtain ⟨q1, hq1⟩ : ∃ q1, Is q1 (turnK key 92) := ⟨_, Is.of _⟩
  obtain ⟨q2, hq2⟩ : ∃ q2, Is q2 (shaL (turnK key 54 ++ t)) := ⟨_, Is.of _⟩
  have z1 : q1.size = 64 := by rw [hq1.size, turnK_length]
  have z2 : q2.size = 32 := by rw [hq2.size, shaL_length]
  have HQ := Lib.hid (show Is q (shaL (q1 ++ q2).data.toList) by rw [(hq1.append hq2).out]; exact hq)
  have HQ1 := Lib.hid (show Is q1 (K.data.toList.map (· ^^^ 92)) by rw [hK.out]; exact hq1)
  have HQ2 := Lib.hid hq2
  have HKZ := Lib.hid (show K.size = 64 by rw [hK.size, padK_length])
  have HZ := Lib.hid (show (q1 ++ q2).size ≤ 140737488351232 by rw [ByteArray.size_append, z1, z2]; decide)
  have hov : ¬ 9223372036854775807 < q1.size + q2.size := by omega
  have HOV := Lib.hid hov
  have H1 := Lib.hid h1
  have H2 := Lib.hid h2
  have H3 := Lib.hid h3
  clear hK h1 h2 h3 hq hq1 hq2 z1 z2 hov
  go_enter Try.func106, Try.ntmps106
  go_wp2_with fail
  refine region_table (by kernel_rfl) [3, 4, 5, 6, 7, 8, 9, 10, 11, 12, 13, 14, 2]
    (fun i x_ => match i with
      | 0 => x_ = .pointer (some ⟨b, 0, none⟩)
      | 1 => x_ = .pointer (some ⟨b, 0, none⟩)
      | 2 => x_ = .pointer (some ⟨b, 0, none⟩)
      | 3 => x_ = .func (.func 119) #[] #[.pointer (some ⟨cb, 0, none⟩)]
      | 4 => x_ = .string q1
      | 5 => x_ = .pointer (some ⟨b, 0, none⟩)
      | 6 => x_ = .pointer (some ⟨b, 0, none⟩)
      | 7 => x_ = .pointer (some ⟨b, 1, none⟩)
      | 8 => x_ = .pointer (some ⟨hb, 0, none⟩)
      | 9 => x_ = .string q2
      | 10 => x_ = .string (q1 ++ q2)
      | 11 => x_ = .string q
      | 12 => x_ = .string q
      | _ => True) (fun _ _ w' => Below w.heap.size w w') (by kernel_rfl) (by kernel_rfl) rfl (by kernel_rfl) ((Below.refl _ _).drew) ?_ ?_
  · refine StepsOk.cons ?_ (StepsOk.cons ?_ (StepsOk.cons ?_ (StepsOk.cons ?_ (StepsOk.cons ?_ (StepsOk.cons ?_ (StepsOk.cons ?_ (StepsOk.cons ?_ (StepsOk.cons ?_ (StepsOk.cons ?_ (StepsOk.cons ?_ (StepsOk.cons ?_ (StepsOk.cons ?_ StepsOk.nil))))))))))))
    · intro L a w4 Kx hl hsz hs ht hr he hK
      refine step_plain rfl ?_
      have h0 : a.tmps.getD 0 undef = .pointer (some ⟨b, 0, none⟩) := (hs 0 (by decide)).trans rfl
      go_simp
      exact hK _ _ rfl hr
    · intro L a w4 Kx hl hsz hs ht hr he hK
      refine step_plain rfl ?_
      have h3 : a.tmps.getD 3 undef = .pointer (some ⟨b, 0, none⟩) := ht 0 (he 0 (by kernel_rfl)) 3 rfl
      go_simp
      exact hK _ _ rfl hr
    · intro L a w4 Kx hl hsz hs ht hr he hK
      refine step_plain rfl ?_
      have h4 : a.tmps.getD 4 undef = .pointer (some ⟨b, 0, none⟩) := ht 1 (he 1 (by kernel_rfl)) 4 rfl
      go_simp
      exact hK _ _ rfl hr
    · intro L a w4 Kx hl hsz hs ht hr he hK
      refine step_plain rfl ?_
      have h5 : a.tmps.getD 5 undef = .pointer (some ⟨b, 0, none⟩) := ht 2 (he 2 (by kernel_rfl)) 5 rfl
      have hc := (H1.out.below hr H1.out.lt).cell (i := 0) rfl
      unfold macV at hc
      go_simp
      exact hK _ _ rfl hr
    · intro L a w4 Kx hl hsz hs ht hr he hK
      refine step_plain rfl ?_
      have h6 : a.tmps.getD 6 undef = .func (.func 119) #[] #[.pointer (some ⟨cb, 0, none⟩)] := ht 3 (he 3 (by kernel_rfl)) 6 rfl
      have hc := (H2.out.below hr H2.out.lt).cell (i := 0) rfl
      go_simp
      refine (turned_walk 92 _ rfl cb K HKZ.out q1 HQ1.out _ hc).mono ?_
      rintro e w5 ⟨rfl, hb5⟩
      exact hK _ _ rfl (bthen hr hb5)
    · intro L a w4 Kx hl hsz hs ht hr he hK
      refine step_plain rfl ?_
      have h0 : a.tmps.getD 0 undef = .pointer (some ⟨b, 0, none⟩) := (hs 0 (by decide)).trans rfl
      go_simp
      exact hK _ _ rfl hr
    · intro L a w4 Kx hl hsz hs ht hr he hK
      refine step_plain rfl ?_
      have h8 : a.tmps.getD 8 undef = .pointer (some ⟨b, 0, none⟩) := ht 5 (he 5 (by kernel_rfl)) 8 rfl
      go_simp
      exact hK _ _ rfl hr
    · intro L a w4 Kx hl hsz hs ht hr he hK
      refine step_plain rfl ?_
      have h9 : a.tmps.getD 9 undef = .pointer (some ⟨b, 0, none⟩) := ht 6 (he 6 (by kernel_rfl)) 9 rfl
      go_simp
      exact hK _ _ rfl hr
    · intro L a w4 Kx hl hsz hs ht hr he hK
      refine step_plain rfl ?_
      have h10 : a.tmps.getD 10 undef = .pointer (some ⟨b, 1, none⟩) := ht 7 (he 7 (by kernel_rfl)) 10 rfl
      have hc := (H1.out.below hr H1.out.lt).cell (i := 1) rfl
      go_simp
      exact hK _ _ rfl hr
    · intro L a w4 Kx hl hsz hs ht hr he hK
      refine step_plain rfl ?_
      have h11 : a.tmps.getD 11 undef = .pointer (some ⟨hb, 0, none⟩) := ht 8 (he 8 (by kernel_rfl)) 11 rfl
      go_simp
      refine (HSum_walk hb _ q2 HQ2.out _ (H3.out.below hr H3.out.lt)).mono ?_
      rintro e w5 ⟨rfl, hb5⟩
      exact hK _ _ rfl (bthen hr hb5)
    · intro L a w4 Kx hl hsz hs ht hr he hK
      refine step_plain rfl ?_
      have h7 : a.tmps.getD 7 undef = .string q1 := ht 4 (he 4 (by kernel_rfl)) 7 rfl
      have h12 : a.tmps.getD 12 undef = .string q2 := ht 9 (he 9 (by kernel_rfl)) 12 rfl
      have hov := HOV.out
      go_simp
      exact hK _ _ rfl hr
    · intro L a w4 Kx hl hsz hs ht hr he hK
      refine step_plain rfl ?_
      have h13 : a.tmps.getD 13 undef = .string (q1 ++ q2) := ht 10 (he 10 (by kernel_rfl)) 13 rfl
      go_simp
      refine (ShaSum_walk (q1 ++ q2) HZ.out q HQ.out _).mono ?_
      rintro e w5 ⟨rfl, hb5⟩
      exact hK _ _ rfl (bthen hr hb5)
    · intro L a w4 Kx hl hsz hs ht hr he hK
      refine step_plain rfl ?_
      have h14 : a.tmps.getD 14 undef = .string q := ht 11 (he 11 (by kernel_rfl)) 14 rfl
      go_simp
      exact hK _ _ rfl hr
  · intro f L w4 hf hall hr
    have h2 : f 2 = .string q := hf 12 (by decide) 2 rfl
    have HB := Lib.hid hr
    simp only [List.foldl, Act.put, List.setIfInBounds_toArray, List.set_cons_zero, List.set_cons_succ]
    rw [h2]
    clear hf h2
    generalize f 3 = z3
    generalize f 4 = z4
    generalize f 5 = z5
    generalize f 6 = z6
    generalize f 7 = z7
    generalize f 8 = z8
    generalize f 9 = z9
    generalize f 10 = z10
    generalize f 11 = z11
    generalize f 12 = z12
    generalize f 13 = z13
    generalize f 14 = z14
    clear hall hr
    go_wp2_with fail
    go_ret
    exact ⟨rfl, HB.out⟩

theorem not_empty (s : ByteArray) {l : List UInt8} (h : Is s l) (hn : l ≠ []) : seq s ⟨#[]⟩ = false := by
  rw [seq_eq h (show Is ⟨#[]⟩ [] from rfl)]
  exact decide_eq_false hn
theorem is_empty (s : ByteArray) (h : Is s []) : seq s ⟨#[]⟩ = true := seq_is h rfl
set_option maxRecDepth 100000 in
set_option maxHeartbeats 4000000 in
theorem MacNew_walk (key : ByteArray) (hk : key.size ≤ 140737488351232) (w : World) :
    Calls Try.prog 104 #[.string key] w fun e w' => ∃ b, e = .returned (.pointer (some ⟨b, 0, none⟩)) ∧ MacAt w' w.heap.size b key.data.toList [] ∧ Below w.heap.size w w' := by
  obtain ⟨sk, hsk⟩ : ∃ sk, Is sk (shortK key.data.toList) := ⟨_, Is.of _⟩
  obtain ⟨K, hK⟩ : ∃ K, Is K (padK key.data.toList) := ⟨_, Is.of _⟩
  obtain ⟨q1, hq1⟩ : ∃ q1, Is q1 (turnK key.data.toList 54) := ⟨_, Is.of _⟩
  have hkl : key.data.toList.length = key.size := by rw [Array.length_toList]; rfl
  have skz : sk.size ≤ 64 := by rw [hsk.size]; exact shortK_length _
  have HSK := Lib.hid hsk
  have HK := Lib.hid hK
  have HKZ := Lib.hid (show K.size = 64 by rw [hK.size, padK_length])
  have HQ1 := Lib.hid (show Is q1 (K.data.toList.map (· ^^^ 54)) by rw [hK.out]; exact hq1)
  have HQT := Lib.hid hq1
  have q1z : q1.size ≤ 64 := by rw [hq1.size, turnK_length]; exact Nat.le_refl _
  have HKL := Lib.hid hkl
  clear hK hq1 hkl
  rcases Nat.lt_or_ge 64 key.size with hlong | hshort
  · have hd : decide ((64 : Int) < (key.size : Int)) = true := decide_eq_true (by omega)
    have HSH := Lib.hid (show Is sk (shaL key.data.toList) by
      have h := hsk
      unfold shortK at h
      rwa [if_pos (by rw [HKL.out]; exact hlong)] at h)
    have hne : shortK key.data.toList ≠ [] := by
      intro h
      have h2 := hsk.size
      have h3 := HSH.out.size
      rw [shaL_length] at h3
      rw [h] at h2
      have h4 : sk.size = 0 := h2
      omega
    have HF := Lib.hid (show Is K (fillL sk.data.toList 64) by rw [hsk.out, fill_key _ hne]; exact HK.out)
    have he : seq K ⟨#[]⟩ = false := not_empty K HK.out (by intro h; have := padK_length key.data.toList; rw [h] at this; cases this)
    clear hsk hne
    go_enter Try.func104, Try.ntmps104
    go_wp2_with fail
    refine (ShaSum_walk key hk sk HSH.out _).mono ?_
    rintro e w1 ⟨rfl, hb1⟩
    have HB1 := Lib.hid hb1
    clear hb1
    go_wp2_with fail
    refine (Fill_as sk 64 (by omega) (by decide) (by decide) K HF.out _).mono ?_
    rintro e w2 ⟨rfl, hb2⟩
    have HB2 := Lib.hid (show Below w.heap.size w w2 from bthen HB1.out hb2)
    clear hb2
    go_upto_region 6 with fail
    have HC4 := Lib.hid (RowAt.new w2 #[.string K] 9 (0, 0))
    have HB4 := Lib.hid (below_alloc' HB2.out (.cells #[.string K] 9))
    have zc : w.heap.size ≤ w2.heap.size := HB2.out.size
    generalize w2.alloc (.cells #[.string K] 9) = w4 at HC4 HB4 ⊢
    generalize w2.heap.size = cb at HC4 zc ⊢
    go_wp2_with fail
    refine (ShaNew_walk _).mono ?_
    rintro e w5 ⟨rfl, h5, hz5, hb5⟩
    obtain ⟨hb, hhb⟩ : ∃ hb, hb = w5.heap.size - 1 := ⟨_, rfl⟩
    rw [← hhb] at h5 ⊢
    have HC5 := Lib.hid (HC4.out.below hb5 HC4.out.lt)
    have H5 := Lib.hid h5
    have HB5 := Lib.hid (bthen HB4.out hb5)
    have zh : w.heap.size ≤ hb := by have := HB4.out.size; omega
    have nch : cb ≠ hb := by have := HC4.out.lt; omega
    have zh5 : hb < w5.heap.size := by omega
    clear h5 hb5 hz5 hhb
    go_wp2_with fail
    change Code.wp _ _ _ _ (w5.alloc (.cells #[macV cb, .pointer (some ⟨hb, 0, none⟩)] 148))
    have HM6 := Lib.hid (RowAt.new w5 #[macV cb, .pointer (some ⟨hb, 0, none⟩)] 148 (0, 0))
    have HC6 := Lib.hid (HC5.out.alloc (.cells #[macV cb, .pointer (some ⟨hb, 0, none⟩)] 148))
    have H6 := Lib.hid (H5.out.below ((Below.refl w5.heap.size w5).alloc (Nat.le_refl _) (.cells #[macV cb, .pointer (some ⟨hb, 0, none⟩)] 148)) zh5)
    have HB6 := Lib.hid (below_alloc' HB5.out (.cells #[macV cb, .pointer (some ⟨hb, 0, none⟩)] 148))
    have zm : w.heap.size ≤ w5.heap.size := HB5.out.size
    have nmh : w5.heap.size ≠ hb := by omega
    generalize w5.alloc (.cells #[macV cb, .pointer (some ⟨hb, 0, none⟩)] 148) = w6 at HM6 HC6 H6 HB6 ⊢
    generalize w5.heap.size = mb at HM6 zm nmh ⊢
    clear HC4 HC5 H5 HB5 HB4 zh5
    refine region_anc (by kernel_rfl) [22, 23, 24, 25, 26, 27, 28, 29, 30, 31]
      (fun i x_ => match i with
        | 0 => x_ = .pointer (some ⟨mb, 0, none⟩)
        | 1 => x_ = .pointer (some ⟨mb, 0, none⟩)
        | 2 => x_ = .pointer (some ⟨mb, 1, none⟩)
        | 3 => x_ = .pointer (some ⟨hb, 0, none⟩)
        | 4 => x_ = .pointer (some ⟨mb, 0, none⟩)
        | 5 => x_ = .pointer (some ⟨mb, 0, none⟩)
        | 6 => x_ = .pointer (some ⟨mb, 0, none⟩)
        | 7 => x_ = .func (.func 119) #[] #[.pointer (some ⟨cb, 0, none⟩)]
        | 8 => x_ = .string q1
        | 9 => x_ = .tuple #[]
        | _ => True) (fun L _ w' => (L 9 = false → Below w6.heap.size w6 w') ∧ (L 9 = true → MacAt w' w.heap.size mb key.data.toList [] ∧ Below w.heap.size w w')) (by kernel_rfl) (by kernel_rfl) rfl (by kernel_rfl) (⟨fun _ => (Below.refl _ _).drew, (fun h => by cases h)⟩) ?_ ?_
    · refine StepsOk2.cons ?_ (StepsOk2.cons ?_ (StepsOk2.cons ?_ (StepsOk2.cons ?_ (StepsOk2.cons ?_ (StepsOk2.cons ?_ (StepsOk2.cons ?_ (StepsOk2.cons ?_ (StepsOk2.cons ?_ (StepsOk2.cons ?_ StepsOk2.nil)))))))))
      · intro L a w4 Kx hl hsz hs ht hr he hcl hK
        refine step_plain rfl ?_
        have h4 : a.tmps.getD 4 undef = .pointer (some ⟨mb, 0, none⟩) := (hs 4 (by decide)).trans rfl
        go_simp
        exact hK _ _ rfl (by simpa using hr)
      · intro L a w4 Kx hl hsz hs ht hr he hcl hK
        refine step_plain rfl ?_
        have h22 : a.tmps.getD 22 undef = .pointer (some ⟨mb, 0, none⟩) := ht 0 (he 0 (by kernel_rfl)) 22 rfl
        go_simp
        exact hK _ _ rfl (by simpa using hr)
      · intro L a w4 Kx hl hsz hs ht hr he hcl hK
        refine step_plain rfl ?_
        have h23 : a.tmps.getD 23 undef = .pointer (some ⟨mb, 0, none⟩) := ht 1 (he 1 (by kernel_rfl)) 23 rfl
        go_simp
        exact hK _ _ rfl (by simpa using hr)
      · intro L a w4 Kx hl hsz hs ht hr he hcl hK
        refine step_plain rfl ?_
        have h24 : a.tmps.getD 24 undef = .pointer (some ⟨mb, 1, none⟩) := ht 2 (he 2 (by kernel_rfl)) 24 rfl
        have hx : L 9 = false := by
          cases hy : L 9 with
          | false => rfl
          | true => have := hcl 9 3 (by kernel_rfl) hy; rw [hl] at this; cases this
        have hb6 := hr.1 hx
        have hc := (HM6.out.below hb6 HM6.out.lt).cell (i := 1) rfl
        go_simp
        refine hK _ _ rfl ⟨fun _ => hb6, fun h => ?_⟩
        have h' : (L 9 || false) = true := h
        rw [hx] at h'
        cases h'
      · intro L a w4 Kx hl hsz hs ht hr he hcl hK
        refine step_plain rfl ?_
        have h4 : a.tmps.getD 4 undef = .pointer (some ⟨mb, 0, none⟩) := (hs 4 (by decide)).trans rfl
        go_simp
        exact hK _ _ rfl (by simpa using hr)
      · intro L a w4 Kx hl hsz hs ht hr he hcl hK
        refine step_plain rfl ?_
        have h26 : a.tmps.getD 26 undef = .pointer (some ⟨mb, 0, none⟩) := ht 4 (he 4 (by kernel_rfl)) 26 rfl
        go_simp
        exact hK _ _ rfl (by simpa using hr)
      · intro L a w4 Kx hl hsz hs ht hr he hcl hK
        refine step_plain rfl ?_
        have h27 : a.tmps.getD 27 undef = .pointer (some ⟨mb, 0, none⟩) := ht 5 (he 5 (by kernel_rfl)) 27 rfl
        go_simp
        exact hK _ _ rfl (by simpa using hr)
      · intro L a w4 Kx hl hsz hs ht hr he hcl hK
        refine step_plain rfl ?_
        have h28 : a.tmps.getD 28 undef = .pointer (some ⟨mb, 0, none⟩) := ht 6 (he 6 (by kernel_rfl)) 28 rfl
        have hx : L 9 = false := by
          cases hy : L 9 with
          | false => rfl
          | true => have := hcl 8 7 (by kernel_rfl) (hcl 9 8 (by kernel_rfl) hy); rw [hl] at this; cases this
        have hb6 := hr.1 hx
        have hc := (HM6.out.below hb6 HM6.out.lt).cell (i := 0) rfl
        unfold macV at hc
        go_simp
        refine hK _ _ rfl ⟨fun _ => hb6, fun h => ?_⟩
        have h' : (L 9 || false) = true := h
        rw [hx] at h'
        cases h'
      · intro L a w4 Kx hl hsz hs ht hr he hcl hK
        refine step_plain rfl ?_
        have h29 : a.tmps.getD 29 undef = .func (.func 119) #[] #[.pointer (some ⟨cb, 0, none⟩)] := ht 7 (he 7 (by kernel_rfl)) 29 rfl
        have hx : L 9 = false := by
          cases hy : L 9 with
          | false => rfl
          | true => have := hcl 9 8 (by kernel_rfl) hy; rw [hl] at this; cases this
        have hb6 := hr.1 hx
        have hc := (HC6.out.below hb6 HC6.out.lt).cell (i := 0) rfl
        go_simp
        refine (turned_walk 54 _ rfl cb K HKZ.out q1 HQ1.out _ hc).mono ?_
        rintro e w5 ⟨rfl, hb5⟩
        have hb6 := bthen hb6 hb5
        refine hK _ _ rfl ⟨fun _ => hb6, fun h => ?_⟩
        have h' : (L 9 || false) = true := h
        rw [hx] at h'
        cases h'
      · intro L a w4 Kx hl hsz hs ht hr he hcl hK
        refine step_plain rfl ?_
        have h25 : a.tmps.getD 25 undef = .pointer (some ⟨hb, 0, none⟩) := ht 3 (he 3 (by kernel_rfl)) 25 rfl
        have h30 : a.tmps.getD 30 undef = .string q1 := ht 8 (he 8 (by kernel_rfl)) 30 rfl
        have hb6 := hr.1 hl
        go_simp
        refine (HAdd_walk hb [] q1 (by omega) _ (H6.out.below hb6 H6.out.lt)).mono ?_
        rintro e w7 ⟨rfl, h7, ho7⟩
        refine hK _ _ rfl ⟨fun h => ?_, fun _ => ⟨⟨cb, hb, K, ⟨zm, zc, zh, nmh, nch⟩, HK.out, (HM6.out.below hb6 HM6.out.lt).only ho7 nmh, (HC6.out.below hb6 HC6.out.lt).only ho7 nch, ?_⟩, (HB6.out.trans (hb6.mono HB6.out.size)).trans (ho7.below zh (Nat.le_trans HB6.out.size hb6.size))⟩⟩
        · have h' : (L 9 || true) = false := h
          rw [Bool.or_true] at h'
          cases h'
        · rw [List.append_nil, ← HQT.out.out]; exact h7
    · intro f L w4 hf hall hr
      have h9 := hr.2 (hall 9 (by decide))
      have HR := Lib.hid h9
      simp only [List.foldl, Act.put, List.setIfInBounds_toArray, List.set_cons_zero, List.set_cons_succ]
      clear hf
      generalize f 22 = z22
      generalize f 23 = z23
      generalize f 24 = z24
      generalize f 25 = z25
      generalize f 26 = z26
      generalize f 27 = z27
      generalize f 28 = z28
      generalize f 29 = z29
      generalize f 30 = z30
      generalize f 31 = z31
      clear hall hr h9
      go_wp2_with fail
      go_ret
      exact ⟨mb, rfl, HR.out.1, HR.out.2⟩
  · have hd : decide ((64 : Int) < (key.size : Int)) = false := decide_eq_false (by omega)
    have hkk : key = sk := by
      refine (Is.self key).inj ?_
      have h := hsk
      unfold shortK at h
      rwa [if_neg (by rw [HKL.out]; omega)] at h
    by_cases hne : shortK key.data.toList ≠ []
    · have HF := Lib.hid (show Is K (fillL key.data.toList 64) by rw [hkk, hsk.out, fill_key _ hne]; exact HK.out)
      have he : seq K ⟨#[]⟩ = false := not_empty K HK.out (by intro h; have := padK_length key.data.toList; rw [h] at this; cases this)
      have HB1 := Lib.hid (Below.refl w.heap.size w)
      obtain ⟨w1, hw1⟩ : ∃ w1 : World, w1 = w := ⟨_, rfl⟩
      clear hsk hne hkk
      go_enter Try.func104, Try.ntmps104
      go_wp2_with fail
      refine (Fill_as key 64 (by omega) (by decide) (by decide) K HF.out _).mono ?_
      rintro e w2 ⟨rfl, hb2⟩
      have HB2 := Lib.hid (show Below w.heap.size w w2 from hb2)
      clear hb2
      go_upto_region 6 with fail
      have HC4 := Lib.hid (RowAt.new w2 #[.string K] 9 (0, 0))
      have HB4 := Lib.hid (below_alloc' HB2.out (.cells #[.string K] 9))
      have zc : w.heap.size ≤ w2.heap.size := HB2.out.size
      generalize w2.alloc (.cells #[.string K] 9) = w4 at HC4 HB4 ⊢
      generalize w2.heap.size = cb at HC4 zc ⊢
      go_wp2_with fail
      refine (ShaNew_walk _).mono ?_
      rintro e w5 ⟨rfl, h5, hz5, hb5⟩
      obtain ⟨hb, hhb⟩ : ∃ hb, hb = w5.heap.size - 1 := ⟨_, rfl⟩
      rw [← hhb] at h5 ⊢
      have HC5 := Lib.hid (HC4.out.below hb5 HC4.out.lt)
      have H5 := Lib.hid h5
      have HB5 := Lib.hid (bthen HB4.out hb5)
      have zh : w.heap.size ≤ hb := by have := HB4.out.size; omega
      have nch : cb ≠ hb := by have := HC4.out.lt; omega
      have zh5 : hb < w5.heap.size := by omega
      clear h5 hb5 hz5 hhb
      go_wp2_with fail
      change Code.wp _ _ _ _ (w5.alloc (.cells #[macV cb, .pointer (some ⟨hb, 0, none⟩)] 148))
      have HM6 := Lib.hid (RowAt.new w5 #[macV cb, .pointer (some ⟨hb, 0, none⟩)] 148 (0, 0))
      have HC6 := Lib.hid (HC5.out.alloc (.cells #[macV cb, .pointer (some ⟨hb, 0, none⟩)] 148))
      have H6 := Lib.hid (H5.out.below ((Below.refl w5.heap.size w5).alloc (Nat.le_refl _) (.cells #[macV cb, .pointer (some ⟨hb, 0, none⟩)] 148)) zh5)
      have HB6 := Lib.hid (below_alloc' HB5.out (.cells #[macV cb, .pointer (some ⟨hb, 0, none⟩)] 148))
      have zm : w.heap.size ≤ w5.heap.size := HB5.out.size
      have nmh : w5.heap.size ≠ hb := by omega
      generalize w5.alloc (.cells #[macV cb, .pointer (some ⟨hb, 0, none⟩)] 148) = w6 at HM6 HC6 H6 HB6 ⊢
      generalize w5.heap.size = mb at HM6 zm nmh ⊢
      clear HC4 HC5 H5 HB5 HB4 zh5
      refine region_anc (by kernel_rfl) [22, 23, 24, 25, 26, 27, 28, 29, 30, 31]
        (fun i x_ => match i with
          | 0 => x_ = .pointer (some ⟨mb, 0, none⟩)
          | 1 => x_ = .pointer (some ⟨mb, 0, none⟩)
          | 2 => x_ = .pointer (some ⟨mb, 1, none⟩)
          | 3 => x_ = .pointer (some ⟨hb, 0, none⟩)
          | 4 => x_ = .pointer (some ⟨mb, 0, none⟩)
          | 5 => x_ = .pointer (some ⟨mb, 0, none⟩)
          | 6 => x_ = .pointer (some ⟨mb, 0, none⟩)
          | 7 => x_ = .func (.func 119) #[] #[.pointer (some ⟨cb, 0, none⟩)]
          | 8 => x_ = .string q1
          | 9 => x_ = .tuple #[]
          | _ => True) (fun L _ w' => (L 9 = false → Below w6.heap.size w6 w') ∧ (L 9 = true → MacAt w' w.heap.size mb key.data.toList [] ∧ Below w.heap.size w w')) (by kernel_rfl) (by kernel_rfl) rfl (by kernel_rfl) (⟨fun _ => (Below.refl _ _).drew, (fun h => by cases h)⟩) ?_ ?_
      · refine StepsOk2.cons ?_ (StepsOk2.cons ?_ (StepsOk2.cons ?_ (StepsOk2.cons ?_ (StepsOk2.cons ?_ (StepsOk2.cons ?_ (StepsOk2.cons ?_ (StepsOk2.cons ?_ (StepsOk2.cons ?_ (StepsOk2.cons ?_ StepsOk2.nil)))))))))
        · intro L a w4 Kx hl hsz hs ht hr he hcl hK
          refine step_plain rfl ?_
          have h4 : a.tmps.getD 4 undef = .pointer (some ⟨mb, 0, none⟩) := (hs 4 (by decide)).trans rfl
          go_simp
          exact hK _ _ rfl (by simpa using hr)
        · intro L a w4 Kx hl hsz hs ht hr he hcl hK
          refine step_plain rfl ?_
          have h22 : a.tmps.getD 22 undef = .pointer (some ⟨mb, 0, none⟩) := ht 0 (he 0 (by kernel_rfl)) 22 rfl
          go_simp
          exact hK _ _ rfl (by simpa using hr)
        · intro L a w4 Kx hl hsz hs ht hr he hcl hK
          refine step_plain rfl ?_
          have h23 : a.tmps.getD 23 undef = .pointer (some ⟨mb, 0, none⟩) := ht 1 (he 1 (by kernel_rfl)) 23 rfl
          go_simp
          exact hK _ _ rfl (by simpa using hr)
        · intro L a w4 Kx hl hsz hs ht hr he hcl hK
          refine step_plain rfl ?_
          have h24 : a.tmps.getD 24 undef = .pointer (some ⟨mb, 1, none⟩) := ht 2 (he 2 (by kernel_rfl)) 24 rfl
          have hx : L 9 = false := by
            cases hy : L 9 with
            | false => rfl
            | true => have := hcl 9 3 (by kernel_rfl) hy; rw [hl] at this; cases this
          have hb6 := hr.1 hx
          have hc := (HM6.out.below hb6 HM6.out.lt).cell (i := 1) rfl
          go_simp
          refine hK _ _ rfl ⟨fun _ => hb6, fun h => ?_⟩
          have h' : (L 9 || false) = true := h
          rw [hx] at h'
          cases h'
        · intro L a w4 Kx hl hsz hs ht hr he hcl hK
          refine step_plain rfl ?_
          have h4 : a.tmps.getD 4 undef = .pointer (some ⟨mb, 0, none⟩) := (hs 4 (by decide)).trans rfl
          go_simp
          exact hK _ _ rfl (by simpa using hr)
        · intro L a w4 Kx hl hsz hs ht hr he hcl hK
          refine step_plain rfl ?_
          have h26 : a.tmps.getD 26 undef = .pointer (some ⟨mb, 0, none⟩) := ht 4 (he 4 (by kernel_rfl)) 26 rfl
          go_simp
          exact hK _ _ rfl (by simpa using hr)
        · intro L a w4 Kx hl hsz hs ht hr he hcl hK
          refine step_plain rfl ?_
          have h27 : a.tmps.getD 27 undef = .pointer (some ⟨mb, 0, none⟩) := ht 5 (he 5 (by kernel_rfl)) 27 rfl
          go_simp
          exact hK _ _ rfl (by simpa using hr)
        · intro L a w4 Kx hl hsz hs ht hr he hcl hK
          refine step_plain rfl ?_
          have h28 : a.tmps.getD 28 undef = .pointer (some ⟨mb, 0, none⟩) := ht 6 (he 6 (by kernel_rfl)) 28 rfl
          have hx : L 9 = false := by
            cases hy : L 9 with
            | false => rfl
            | true => have := hcl 8 7 (by kernel_rfl) (hcl 9 8 (by kernel_rfl) hy); rw [hl] at this; cases this
          have hb6 := hr.1 hx
          have hc := (HM6.out.below hb6 HM6.out.lt).cell (i := 0) rfl
          unfold macV at hc
          go_simp
          refine hK _ _ rfl ⟨fun _ => hb6, fun h => ?_⟩
          have h' : (L 9 || false) = true := h
          rw [hx] at h'
          cases h'
        · intro L a w4 Kx hl hsz hs ht hr he hcl hK
          refine step_plain rfl ?_
          have h29 : a.tmps.getD 29 undef = .func (.func 119) #[] #[.pointer (some ⟨cb, 0, none⟩)] := ht 7 (he 7 (by kernel_rfl)) 29 rfl
          have hx : L 9 = false := by
            cases hy : L 9 with
            | false => rfl
            | true => have := hcl 9 8 (by kernel_rfl) hy; rw [hl] at this; cases this
          have hb6 := hr.1 hx
          have hc := (HC6.out.below hb6 HC6.out.lt).cell (i := 0) rfl
          go_simp
          refine (turned_walk 54 _ rfl cb K HKZ.out q1 HQ1.out _ hc).mono ?_
          rintro e w5 ⟨rfl, hb5⟩
          have hb6 := bthen hb6 hb5
          refine hK _ _ rfl ⟨fun _ => hb6, fun h => ?_⟩
          have h' : (L 9 || false) = true := h
          rw [hx] at h'
          cases h'
        · intro L a w4 Kx hl hsz hs ht hr he hcl hK
          refine step_plain rfl ?_
          have h25 : a.tmps.getD 25 undef = .pointer (some ⟨hb, 0, none⟩) := ht 3 (he 3 (by kernel_rfl)) 25 rfl
          have h30 : a.tmps.getD 30 undef = .string q1 := ht 8 (he 8 (by kernel_rfl)) 30 rfl
          have hb6 := hr.1 hl
          go_simp
          refine (HAdd_walk hb [] q1 (by omega) _ (H6.out.below hb6 H6.out.lt)).mono ?_
          rintro e w7 ⟨rfl, h7, ho7⟩
          refine hK _ _ rfl ⟨fun h => ?_, fun _ => ⟨⟨cb, hb, K, ⟨zm, zc, zh, nmh, nch⟩, HK.out, (HM6.out.below hb6 HM6.out.lt).only ho7 nmh, (HC6.out.below hb6 HC6.out.lt).only ho7 nch, ?_⟩, (HB6.out.trans (hb6.mono HB6.out.size)).trans (ho7.below zh (Nat.le_trans HB6.out.size hb6.size))⟩⟩
          · have h' : (L 9 || true) = false := h
            rw [Bool.or_true] at h'
            cases h'
          · rw [List.append_nil, ← HQT.out.out]; exact h7
      · intro f L w4 hf hall hr
        have h9 := hr.2 (hall 9 (by decide))
        have HR := Lib.hid h9
        simp only [List.foldl, Act.put, List.setIfInBounds_toArray, List.set_cons_zero, List.set_cons_succ]
        clear hf
        generalize f 22 = z22
        generalize f 23 = z23
        generalize f 24 = z24
        generalize f 25 = z25
        generalize f 26 = z26
        generalize f 27 = z27
        generalize f 28 = z28
        generalize f 29 = z29
        generalize f 30 = z30
        generalize f 31 = z31
        clear hall hr h9
        go_wp2_with fail
        go_ret
        exact ⟨mb, rfl, HR.out.1, HR.out.2⟩
    · have hn0 : shortK key.data.toList = [] := Classical.not_not.1 hne
      obtain ⟨hf0, hf1⟩ := fill_empty _ hn0
      have HF := Lib.hid (show Is ⟨#[]⟩ (fillL key.data.toList 64) by rw [hkk, hsk.out, hf0]; rfl)
      have HKR := Lib.hid (show Is K (List.replicate 64 0) by rw [← hf1]; exact HK.out)
      have he : seq ⟨#[]⟩ ⟨#[]⟩ = true := rfl
      clear hsk hne hkk hn0 hf0 hf1
      go_enter Try.func104, Try.ntmps104
      go_wp2_with fail
      refine (Fill_as key 64 hk (by decide) (by decide) ⟨#[]⟩ HF.out _).mono ?_
      rintro e w2 ⟨rfl, hb2⟩
      have HB2 := Lib.hid hb2
      clear hb2
      go_wp2_with fail
      refine (Repeat_as 0 64 (by decide) K HKR.out _).mono ?_
      rintro e w3 ⟨rfl, hb3⟩
      have HC3 := Lib.hid ((RowAt.new w2 #[.string ⟨#[]⟩] 9 (0, 0)).below hb3 (by simp))
      have HB3 := Lib.hid (bthen (below_alloc' HB2.out (.cells #[.string ⟨#[]⟩] 9)) hb3)
      have zc : w.heap.size ≤ w2.heap.size := HB2.out.size
      generalize w2.heap.size = cb at HC3 zc ⊢
      have c0 := HC3.out.cell (i := 0) rfl
      have f0 := HC3.out.free (i := 0) (by simp)
      clear hb3
      go_upto_region 6 with fail
      have HC4 := Lib.hid (HC3.out.store 0 (.string K))
      have HB4 := Lib.hid (HB3.out.setCell (p := ⟨cb, 0, none⟩) zc (.string K))
      generalize w3.setCell ⟨cb, 0, none⟩ (.string K) = w4 at HC4 HB4 ⊢
      clear c0 f0 HC3 HB3
      go_wp2_with fail
      refine (ShaNew_walk _).mono ?_
      rintro e w5 ⟨rfl, h5, hz5, hb5⟩
      obtain ⟨hb, hhb⟩ : ∃ hb, hb = w5.heap.size - 1 := ⟨_, rfl⟩
      rw [← hhb] at h5 ⊢
      have HC5 := Lib.hid (HC4.out.below hb5 HC4.out.lt)
      have H5 := Lib.hid h5
      have HB5 := Lib.hid (bthen HB4.out hb5)
      have zh : w.heap.size ≤ hb := by have := HB4.out.size; omega
      have nch : cb ≠ hb := by have := HC4.out.lt; omega
      have zh5 : hb < w5.heap.size := by omega
      clear h5 hb5 hz5 hhb
      go_wp2_with fail
      change Code.wp _ _ _ _ (w5.alloc (.cells #[macV cb, .pointer (some ⟨hb, 0, none⟩)] 148))
      have HM6 := Lib.hid (RowAt.new w5 #[macV cb, .pointer (some ⟨hb, 0, none⟩)] 148 (0, 0))
      have HC6 := Lib.hid (HC5.out.alloc (.cells #[macV cb, .pointer (some ⟨hb, 0, none⟩)] 148))
      have H6 := Lib.hid (H5.out.below ((Below.refl w5.heap.size w5).alloc (Nat.le_refl _) (.cells #[macV cb, .pointer (some ⟨hb, 0, none⟩)] 148)) zh5)
      have HB6 := Lib.hid (below_alloc' HB5.out (.cells #[macV cb, .pointer (some ⟨hb, 0, none⟩)] 148))
      have zm : w.heap.size ≤ w5.heap.size := HB5.out.size
      have nmh : w5.heap.size ≠ hb := by omega
      generalize w5.alloc (.cells #[macV cb, .pointer (some ⟨hb, 0, none⟩)] 148) = w6 at HM6 HC6 H6 HB6 ⊢
      generalize w5.heap.size = mb at HM6 zm nmh ⊢
      clear HC4 HC5 H5 HB5 HB4 zh5
      refine region_anc (by kernel_rfl) [22, 23, 24, 25, 26, 27, 28, 29, 30, 31]
        (fun i x_ => match i with
          | 0 => x_ = .pointer (some ⟨mb, 0, none⟩)
          | 1 => x_ = .pointer (some ⟨mb, 0, none⟩)
          | 2 => x_ = .pointer (some ⟨mb, 1, none⟩)
          | 3 => x_ = .pointer (some ⟨hb, 0, none⟩)
          | 4 => x_ = .pointer (some ⟨mb, 0, none⟩)
          | 5 => x_ = .pointer (some ⟨mb, 0, none⟩)
          | 6 => x_ = .pointer (some ⟨mb, 0, none⟩)
          | 7 => x_ = .func (.func 119) #[] #[.pointer (some ⟨cb, 0, none⟩)]
          | 8 => x_ = .string q1
          | 9 => x_ = .tuple #[]
          | _ => True) (fun L _ w' => (L 9 = false → Below w6.heap.size w6 w') ∧ (L 9 = true → MacAt w' w.heap.size mb key.data.toList [] ∧ Below w.heap.size w w')) (by kernel_rfl) (by kernel_rfl) rfl (by kernel_rfl) (⟨fun _ => (Below.refl _ _).drew, (fun h => by cases h)⟩) ?_ ?_
      · refine StepsOk2.cons ?_ (StepsOk2.cons ?_ (StepsOk2.cons ?_ (StepsOk2.cons ?_ (StepsOk2.cons ?_ (StepsOk2.cons ?_ (StepsOk2.cons ?_ (StepsOk2.cons ?_ (StepsOk2.cons ?_ (StepsOk2.cons ?_ StepsOk2.nil)))))))))
        · intro L a w4 Kx hl hsz hs ht hr he hcl hK
          refine step_plain rfl ?_
          have h4 : a.tmps.getD 4 undef = .pointer (some ⟨mb, 0, none⟩) := (hs 4 (by decide)).trans rfl
          go_simp
          exact hK _ _ rfl (by simpa using hr)
        · intro L a w4 Kx hl hsz hs ht hr he hcl hK
          refine step_plain rfl ?_
          have h22 : a.tmps.getD 22 undef = .pointer (some ⟨mb, 0, none⟩) := ht 0 (he 0 (by kernel_rfl)) 22 rfl
          go_simp
          exact hK _ _ rfl (by simpa using hr)
        · intro L a w4 Kx hl hsz hs ht hr he hcl hK
          refine step_plain rfl ?_
          have h23 : a.tmps.getD 23 undef = .pointer (some ⟨mb, 0, none⟩) := ht 1 (he 1 (by kernel_rfl)) 23 rfl
          go_simp
          exact hK _ _ rfl (by simpa using hr)
        · intro L a w4 Kx hl hsz hs ht hr he hcl hK
          refine step_plain rfl ?_
          have h24 : a.tmps.getD 24 undef = .pointer (some ⟨mb, 1, none⟩) := ht 2 (he 2 (by kernel_rfl)) 24 rfl
          have hx : L 9 = false := by
            cases hy : L 9 with
            | false => rfl
            | true => have := hcl 9 3 (by kernel_rfl) hy; rw [hl] at this; cases this
          have hb6 := hr.1 hx
          have hc := (HM6.out.below hb6 HM6.out.lt).cell (i := 1) rfl
          go_simp
          refine hK _ _ rfl ⟨fun _ => hb6, fun h => ?_⟩
          have h' : (L 9 || false) = true := h
          rw [hx] at h'
          cases h'
        · intro L a w4 Kx hl hsz hs ht hr he hcl hK
          refine step_plain rfl ?_
          have h4 : a.tmps.getD 4 undef = .pointer (some ⟨mb, 0, none⟩) := (hs 4 (by decide)).trans rfl
          go_simp
          exact hK _ _ rfl (by simpa using hr)
        · intro L a w4 Kx hl hsz hs ht hr he hcl hK
          refine step_plain rfl ?_
          have h26 : a.tmps.getD 26 undef = .pointer (some ⟨mb, 0, none⟩) := ht 4 (he 4 (by kernel_rfl)) 26 rfl
          go_simp
          exact hK _ _ rfl (by simpa using hr)
        · intro L a w4 Kx hl hsz hs ht hr he hcl hK
          refine step_plain rfl ?_
          have h27 : a.tmps.getD 27 undef = .pointer (some ⟨mb, 0, none⟩) := ht 5 (he 5 (by kernel_rfl)) 27 rfl
          go_simp
          exact hK _ _ rfl (by simpa using hr)
        · intro L a w4 Kx hl hsz hs ht hr he hcl hK
          refine step_plain rfl ?_
          have h28 : a.tmps.getD 28 undef = .pointer (some ⟨mb, 0, none⟩) := ht 6 (he 6 (by kernel_rfl)) 28 rfl
          have hx : L 9 = false := by
            cases hy : L 9 with
            | false => rfl
            | true => have := hcl 8 7 (by kernel_rfl) (hcl 9 8 (by kernel_rfl) hy); rw [hl] at this; cases this
          have hb6 := hr.1 hx
          have hc := (HM6.out.below hb6 HM6.out.lt).cell (i := 0) rfl
          unfold macV at hc
          go_simp
          refine hK _ _ rfl ⟨fun _ => hb6, fun h => ?_⟩
          have h' : (L 9 || false) = true := h
          rw [hx] at h'
          cases h'
        · intro L a w4 Kx hl hsz hs ht hr he hcl hK
          refine step_plain rfl ?_
          have h29 : a.tmps.getD 29 undef = .func (.func 119) #[] #[.pointer (some ⟨cb, 0, none⟩)] := ht 7 (he 7 (by kernel_rfl)) 29 rfl
          have hx : L 9 = false := by
            cases hy : L 9 with
            | false => rfl
            | true => have := hcl 9 8 (by kernel_rfl) hy; rw [hl] at this; cases this
          have hb6 := hr.1 hx
          have hc := (HC6.out.below hb6 HC6.out.lt).cell (i := 0) rfl
          go_simp
          refine (turned_walk 54 _ rfl cb K HKZ.out q1 HQ1.out _ hc).mono ?_
          rintro e w5 ⟨rfl, hb5⟩
          have hb6 := bthen hb6 hb5
          refine hK _ _ rfl ⟨fun _ => hb6, fun h => ?_⟩
          have h' : (L 9 || false) = true := h
          rw [hx] at h'
          cases h'
        · intro L a w4 Kx hl hsz hs ht hr he hcl hK
          refine step_plain rfl ?_
          have h25 : a.tmps.getD 25 undef = .pointer (some ⟨hb, 0, none⟩) := ht 3 (he 3 (by kernel_rfl)) 25 rfl
          have h30 : a.tmps.getD 30 undef = .string q1 := ht 8 (he 8 (by kernel_rfl)) 30 rfl
          have hb6 := hr.1 hl
          go_simp
          refine (HAdd_walk hb [] q1 (by omega) _ (H6.out.below hb6 H6.out.lt)).mono ?_
          rintro e w7 ⟨rfl, h7, ho7⟩
          refine hK _ _ rfl ⟨fun h => ?_, fun _ => ⟨⟨cb, hb, K, ⟨zm, zc, zh, nmh, nch⟩, HK.out, (HM6.out.below hb6 HM6.out.lt).only ho7 nmh, (HC6.out.below hb6 HC6.out.lt).only ho7 nch, ?_⟩, (HB6.out.trans (hb6.mono HB6.out.size)).trans (ho7.below zh (Nat.le_trans HB6.out.size hb6.size))⟩⟩
          · have h' : (L 9 || true) = false := h
            rw [Bool.or_true] at h'
            cases h'
          · rw [List.append_nil, ← HQT.out.out]; exact h7
      · intro f L w4 hf hall hr
        have h9 := hr.2 (hall 9 (by decide))
        have HR := Lib.hid h9
        simp only [List.foldl, Act.put, List.setIfInBounds_toArray, List.set_cons_zero, List.set_cons_succ]
        clear hf
        generalize f 22 = z22
        generalize f 23 = z23
        generalize f 24 = z24
        generalize f 25 = z25
        generalize f 26 = z26
        generalize f 27 = z27
        generalize f 28 = z28
        generalize f 29 = z29
        generalize f 30 = z30
        generalize f 31 = z31
        clear hall hr h9
        go_wp2_with fail
        go_ret
        exact ⟨mb, rfl, HR.out.1, HR.out.2⟩
end Go.Proofs.Ytfglhemmccihfaa
namespace Go.Proofs.Ytfglhemmccihfaa
open Go.RowKit

set_option maxRecDepth 100000 in
set_option maxHeartbeats 1000000 in
theorem MSum_walk (key text : ByteArray) (hk : key.size ≤ 140737488351000) (ht : text.size ≤ 140737488351000) (q : ByteArray) (hq : Is q (macL key.data.toList text.data.toList)) (w : World) :
    Calls Try.prog 89 #[.string key, .string text] w fun e w' => e = .returned (.string q) ∧ Below w.heap.size w w' := by
  have HQ := Lib.hid hq
  have HTL := Lib.hid (show text.data.toList.length = text.size by rw [Array.length_toList]; rfl)
  clear hq
  go_enter Try.func89, Try.ntmps89
  go_wp2_with fail
  refine (MacNew_walk key (by omega) _).mono ?_
  rintro e w1 ⟨b, rfl, hm, hb1⟩
  have HM := Lib.hid hm
  have HB1 := Lib.hid hb1
  have z1 := hb1.size
  clear hm hb1
  go_wp2_with fail
  refine (MacAdd_walk w.heap.size b _ _ text (by omega) _ HM.out z1).mono ?_
  rintro e w2 ⟨rfl, hm2, hb2⟩
  have HM2 := Lib.hid (show MacAt w2 w.heap.size b key.data.toList text.data.toList from hm2)
  have HB2 := Lib.hid (HB1.out.trans hb2)
  clear hm2 hb2
  go_wp2_with fail
  refine (MacSum_walk w.heap.size b _ _ (by rw [HTL.out]; omega) q HQ.out _ HM2.out).mono ?_
  rintro e w3 ⟨rfl, hb3⟩
  go_wp2_with fail
  go_ret
  exact ⟨rfl, bthen HB2.out hb3⟩
set_option maxHeartbeats 400000 in
theorem MExtract_walk (key text : ByteArray) (hk : key.size ≤ 140737488351000) (ht : text.size ≤ 140737488351000) (q : ByteArray) (hq : Is q (macL key.data.toList text.data.toList)) (w : World) :
    Calls Try.prog 71 #[.string key, .string text] w fun e w' => e = .returned (.string q) ∧ Below w.heap.size w w' := by
  have HQ := Lib.hid hq
  clear hq
  go_enter Try.func71, Try.ntmps71
  go_wp2_with fail
  refine (MSum_walk key text hk ht q HQ.out _).mono ?_
  rintro e w1 ⟨rfl, hb1⟩
  go_wp2_with fail
  go_ret
  exact ⟨rfl, hb1⟩
theorem byte_of (k : Nat) : (⟨BitVec.ofInt 8 ((k : Int) + 1)⟩ : UInt8) = UInt8.ofNat (k + 1) := by
  have : (k : Int) + 1 = ((k + 1 : Nat) : Int) := by omega
  rw [this, BitVec.ofInt_natCast]
  rfl
set_option maxRecDepth 100000 in
set_option maxHeartbeats 1000000 in
theorem Expand_ok (key info : ByteArray) (n : Nat) (hn : n ≤ 8160) (hk : key.size ≤ 140737488351000) (hi : info.size ≤ 140737488350000) (q : ByteArray) (hq : Is q (expandL key.data.toList info.data.toList n)) (w : World) :
    Calls Try.prog 70 #[.string key, .string info, .int .i64 n] w fun e w' => e = .returned (.tuple #[.string q, .int .i64 0]) ∧ Below w.heap.size w w' := by
  have HQ := Lib.hid hq
  have g1 : decide ((n : Int) < 0) = false := decide_eq_false (by omega)
  have g2 : decide ((8160 : Int) < (n : Int)) = false := decide_eq_false (by omega)
  clear hq
  go_enter Try.func70, Try.ntmps70
  go_wp2_with fail
  have HO := Lib.hid (isBuilder_new 95 5 (w := w) (Nat.le_refl w.heap.size))
  have HB := Lib.hid ((Below.refl w.heap.size w).alloc (Nat.le_refl _) (.cells #[.pointer none, .slice none 0 0] 95))
  go_loopg [9, 10] ((n + 31) / 32) (fun gg p i wr => ∃ (k : Nat) (part : ByteArray), k + gg = (n + 31) / 32 ∧ i = .int .i64 ((k : Int) + 1) ∧ p = .string part ∧ Is part (partK key.data.toList info.data.toList k) ∧ Lib.IsBuilderF 95 5 w.heap.size w.heap.size (cells (outK key.data.toList info.data.toList k)) wr ∧ Below w.heap.size w wr)
  case atStart => exact ⟨0, _, by omega, rfl, rfl, Is.of [], HO.out, HB.out⟩
  case round =>
    obtain ⟨k, part, hgg, rfl, rfl, hp, ho, hb⟩ := hrel
    have HO2 := Lib.hid ho
    have HB2 := Lib.hid hb
    have HBL := Lib.hid (outK_length key.data.toList info.data.toList k)
    have HP := Lib.hid hp
    have hpz : part.size ≤ 32 := by rw [hp.size]; exact partK_length _ _ _
    have HGG := Lib.hid hgg
    clear ho hb hgg hp
    rcases Nat.lt_or_ge (32 * k) n with hlt | hge
    · have hL : decide (32 * (k : Int) < (n : Int)) = true := decide_eq_true (by omega)
      have hov1 : ¬ 9223372036854775807 < part.size + info.size := by omega
      have hov2 : ¬ 9223372036854775807 < part.size + info.size + 1 := by omega
      have hst := fun wx => run_str_one0 (P := Try.prog) wx 32 5 Try.underlying32 Try.underlying5 9 Try.underlying9 (BitVec.ofInt 8 ((k : Int) + 1))
      go_wp2_with fail
      refine (Len_k 95 w.heap.size w.heap.size _ _ HO2.out).mono ?_
      rintro e w5 ⟨rfl, rfl⟩
      rw [cells_length, HBL.out]
      go_wp2_with fail
      clear hst
      rw [byte_of]
      obtain ⟨q1, hq1⟩ : ∃ q1, Is q1 (partK key.data.toList info.data.toList (k + 1)) := ⟨_, Is.of _⟩
      have HQ1 := Lib.hid (show Is q1 (macL key.data.toList (part ++ info ++ ⟨#[UInt8.ofNat (k + 1)]⟩).data.toList) by
        rw [((HP.out.append (Is.self info)).append (Is.of [UInt8.ofNat (k + 1)])).out]
        exact hq1)
      have HPQ := Lib.hid hq1
      have q1z : q1.size = 32 := by rw [hq1.size, partK, macL_length]
      have HQZ := Lib.hid q1z
      have htz : (part ++ info ++ ⟨#[UInt8.ofNat (k + 1)]⟩).size ≤ 140737488351000 := by
        rw [ByteArray.size_append, ByteArray.size_append]
        show part.size + info.size + 1 ≤ _
        omega
      clear hq1 q1z
      refine (MSum_walk key _ hk htz q1 HQ1.out _).mono ?_
      rintro e w6 ⟨rfl, hb6⟩
      have hb6' := bthen ((Below.refl wr.heap.size wr).alloc (Nat.le_refl _) _) hb6
      have HO6 := Lib.hid (isBuilder_below HO2.out hb6')
      have HB6 := Lib.hid (bthen HB2.out hb6')
      clear hb6 hb6'
      go_wp2_with fail
      refine (WriteString_k 95 liesBuilder w.heap.size w.heap.size _ q1 _ HO6.out (by rw [cells_length, HBL.out, HQZ.out]; omega) HB6.out.size).mono ?_
      rintro e w7 ⟨rfl, h7, hb7, _⟩
      have HO7 := Lib.hid h7
      have HB7 := Lib.hid (HB6.out.trans hb7)
      clear h7 hb7
      go_wp2_with fail
      go_roundg (gk - 1)
      case measure => have := HGG.out; omega
      case rel =>
        refine ⟨k + 1, q1, by have := HGG.out; omega, by go_num, rfl, HPQ.out, ?_, HB7.out⟩
        rw [outK, cells_append, ← strCells_cells HPQ.out]
        exact .inr HO7.out
    · have hL : decide (32 * (k : Int) < (n : Int)) = false := decide_eq_false (by omega)
      have HKK := Lib.hid (show (n + 31) / 32 = k by have := HGG.out; omega)
      go_wp2_with fail
      refine (Len_k 95 w.heap.size w.heap.size _ _ HO2.out).mono ?_
      rintro e w5 ⟨rfl, rfl⟩
      rw [cells_length, HBL.out]
      go_wp2_with fail
      refine (String_any_k 95 w.heap.size w.heap.size _ _ HO2.out HB2.out.size).mono ?_
      rintro e w6 ⟨rfl, _, hb6, _⟩
      have hR := Is.of (outK key.data.toList info.data.toList k)
      generalize ByteArray.mk (outK key.data.toList info.data.toList k).toArray = R at hR ⊢
      have hRz : R.size = 32 * k := by rw [hR.size, HBL.out]
      have hRn : n ≤ R.size := by omega
      have HRR := Lib.hid (hR.extract 0 n)
      clear hR hRz
      go_wp2_with fail
      go_ret2
      refine ⟨ret_val ?_, HB2.out.trans hb6⟩
      have h := HRR.out
      rw [List.drop_zero, Nat.sub_zero, ← HKK.out] at h
      have h2 : R.extract 0 n = q := h.inj HQ.out
      rw [← h2]
      rfl
set_option maxHeartbeats 400000 in
theorem Expand_no (key info : ByteArray) (n : Int) (h : n < 0 ∨ 8160 < n) (w : World) :
    Calls Try.prog 70 #[.string key, .string info, .int .i64 n] w fun e w' => e = .returned (.tuple #[.string ⟨#[]⟩, .int .i64 5]) ∧ w = w' := by
  by_cases h2 : n < 0
  · have g1 : decide (n < 0) = true := decide_eq_true h2
    clear h
    go_enter Try.func70, Try.ntmps70
    go_wp2_with fail
    go_ret2
    exact ⟨rfl, rfl⟩
  · have g1 : decide (n < 0) = false := decide_eq_false h2
    have g2 : decide ((8160 : Int) < n) = true := decide_eq_true (by omega)
    clear h
    go_enter Try.func70, Try.ntmps70
    go_wp2_with fail
    go_ret2
    exact ⟨rfl, rfl⟩
set_option maxHeartbeats 400000 in
theorem Derive_ok (salt secret info : ByteArray) (n : Nat) (hn : n ≤ 8160) (hsa : salt.size ≤ 140737488351000) (hse : secret.size ≤ 140737488351000) (hi : info.size ≤ 140737488350000) (q : ByteArray) (hq : Is q (expandL (macL salt.data.toList secret.data.toList) info.data.toList n)) (w : World) :
    Calls Try.prog 45 #[.string salt, .string secret, .string info, .int .i64 n] w fun e w' => e = .returned (.tuple #[.string q, .int .i64 0]) ∧ Below w.heap.size w w' := by
  obtain ⟨x, hx⟩ : ∃ x, Is x (macL salt.data.toList secret.data.toList) := ⟨_, Is.of _⟩
  have HX := Lib.hid hx
  have HQ := Lib.hid (show Is q (expandL x.data.toList info.data.toList n) by rw [hx.out]; exact hq)
  have hxz : x.size ≤ 140737488351000 := by rw [hx.size, macL_length]; decide
  clear hx hq
  go_enter Try.func45, Try.ntmps45
  go_wp2_with fail
  refine (MExtract_walk salt secret hsa hse x HX.out _).mono ?_
  rintro e w1 ⟨rfl, hb1⟩
  have HB1 := Lib.hid hb1
  clear hb1
  go_wp2_with fail
  refine (Expand_ok x info n hn hxz hi q HQ.out _).mono ?_
  rintro e w2 ⟨rfl, hb2⟩
  go_wp2_with fail
  go_ret2
  exact ⟨rfl, bthen HB1.out hb2⟩
set_option maxHeartbeats 400000 in
theorem Derive_no (salt secret info : ByteArray) (n : Int) (h : n < 0 ∨ 8160 < n) (hsa : salt.size ≤ 140737488351000) (hse : secret.size ≤ 140737488351000) (w : World) :
    Calls Try.prog 45 #[.string salt, .string secret, .string info, .int .i64 n] w fun e w' => e = .returned (.tuple #[.string ⟨#[]⟩, .int .i64 5]) ∧ Below w.heap.size w w' := by
  obtain ⟨x, hx⟩ : ∃ x, Is x (macL salt.data.toList secret.data.toList) := ⟨_, Is.of _⟩
  have HX := Lib.hid hx
  have HH := Lib.hid h
  clear hx h
  go_enter Try.func45, Try.ntmps45
  go_wp2_with fail
  refine (MExtract_walk salt secret hsa hse x HX.out _).mono ?_
  rintro e w1 ⟨rfl, hb1⟩
  have HB1 := Lib.hid hb1
  clear hb1
  go_wp2_with fail
  refine (Expand_no x info n HH.out _).mono ?_
  rintro e w2 ⟨rfl, rfl⟩
  go_wp2_with fail
  go_ret2
  exact ⟨rfl, HB1.out⟩
end Go.Proofs.Ytfglhemmccihfaa
