/-
  Layer 12's laws, walked: PackWrites.
-/
import Derived.Test.YtfdncifnokkclaaL12D
import Derived.Test.YtfdncifnokkclaaRpackO
import Derived.Laws.AppendOwnNone
namespace Go.Proofs.Ytfdncifnokkclaa
open Go.RowKit

section
variable {ops : Array Oper} {rest : List Oper} {o : Oper} {a : Act} {Q : Exit → Act → World → Prop}
/-- 'out = append(out, l...)', out the call's own, l strings that came in. -/
theorem append_strs (hgd : o.guard = none) (s x : Operand)
    (ho : o.op = .call { callee := .builtin .append, args := #[s, x], argTypes := #[23, 23] })
    (w0 : World) (base : Nat) {v : Value} {n : Nat} {xs : List Value} (hown : w0.ownsRow base 9 1 v n xs) (hs : a.eval s = v)
    (ao : Option Addr) (cap : Nat) (ss : List ByteArray) (hx : a.eval x = .slice ao ss.length cap) (hss : StrsAt w0 ao ss) (hn : ao = none → cap = 0)
    (hbytes : (n + ss.length) * 16 ≤ 140737488355328) (hbase : base ≤ w0.heap.size)
    (h : ∀ v' w', w'.ownsRow base 9 1 v' (n + ss.length) (xs ++ ss.map Value.string) → Below base w0 w' → wpList Try.prog ops Q rest (a.put o.dst v') w') :
    wpList Try.prog ops Q (o :: rest) a w0 := by
  obtain ⟨i0, hi0, hz0, hz1, hz2⟩ := info_parts infoStr
  cases ao with
  | none =>
    have hl : ss.length = 0 := by
      rcases Nat.eq_zero_or_pos ss.length with h0 | h0
      · exact h0
      · obtain ⟨b, off, e, _⟩ := hss 0 h0
        cases e
    have hnil : ss = [] := List.eq_nil_of_length_eq_zero hl
    subst hnil
    rw [hn rfl] at hx
    refine wpList_append_own_none hgd s x _ ho base 9 i0 1 Try.underlying23 hi0 v n xs hs hown hx ?_
    exact h v w0 (by simpa using hown) (Below.refl _ _)
  | some ad =>
    refine wpList_append_own _ hgd s x _ ho base 9 i0 _ 1 16 Try.underlying23 hi0 hz0 hz1 hz2 rfl (by decide) v n xs hs hown ad ss.length cap (ss.map Value.string) hx (by simp) ?_ ?_ (by unfold maxLen; omega) hbytes hbase ?_
    · intro j u hu
      rw [List.getElem?_map] at hu
      rcases Nat.lt_or_ge j ss.length with hj | hj
      · obtain ⟨b, off, e, _, hc⟩ := hss j hj
        injection e with e
        subst e
        rw [List.getElem?_eq_getElem hj] at hu
        injection hu with hu
        rw [← hu]
        have e2 : (Addr.mk b off none).add j = ⟨b, off + j, none⟩ := by unfold Addr.add; split <;> simp_all
        rw [e2]; exact hc
      · rw [List.getElem?_eq_none hj] at hu; cases hu
    · intro u hu
      obtain ⟨t, _, rfl⟩ := List.mem_map.1 hu
      rfl
    · intro v' w' hown' hgrow _
      exact h v' w' hown' ((Below.refl base w0).grown hgrow hbase (fun k hk => (hown.lt k hk).1))
end

theorem large12n (ao : Option Addr) (cap : Nat) (ss : List ByteArray) (n : Nat) (hn : ss.length = n) (w : World) (hss : StrsAt w ao ss) (hs : ∀ s ∈ ss, s.size ≤ 140737488351232) (hl : ss.length ≤ 9223372036854775807) :
    Calls Try.prog 16 #[.slice ao n cap] w fun e w' => e = .returned (.bool (largeP ss)) ∧ w = w' := by
  subst hn
  exact large12 ao cap ss w hss hs hl
theorem sumLen_snoc (ss : List ByteArray) (s : ByteArray) : sumLen (ss ++ [s]) = sumLen ss + s.size := by
  unfold sumLen; rw [List.map_append, List.sum_append]; simp

set_option maxRecDepth 100000 in
set_option maxHeartbeats 4000000 in
theorem PackWrites_w (n : BitVec 64) (s : ByteArray) (hs : s.size ≤ 140737488351232) (ao : Option Addr) (cap : Nat) (ss : List ByteArray) (w : World) (hss : StrsAt w ao ss) (hsz : ∀ t ∈ ss, t.size ≤ 140737488351232) (hln : ss.length * 16 ≤ 140737488351232) (hnl : ao = none → cap = 0) :
    Calls Try.prog 3 #[.int .u64 (bvi n), .string s, .slice ao ss.length cap] w fun e w' => e = .returned (.bool true) ∧ Below w.heap.size w w' := by
  have HSS := Lib.hid hss
  have HSZ := Lib.hid hsz
  have HNL := Lib.hid hnl
  clear hss hsz hnl
  go_enter Try.func3, Try.ntmps3
  go_wp2_with fail
  refine (awake12 _).mono ?_
  rintro e w1 ⟨rfl, hb1⟩
  have HB1 := Lib.hid hb1
  have hz1 : w.heap.size ≤ w1.heap.size := hb1.size
  clear hb1
  have hst1 := ((HSS.out.below HB1.out).below ((Below.refl w1.heap.size w1).alloc (Nat.le_refl _) (.cells #[] 9)))
  go_wp2_with (at_builtin; refine append_strs rfl (.tmp 10) (.tmp 11) rfl (w1.alloc (.cells #[] 9)) w1.heap.size (owns_zero w1 9 (Nat.le_refl _)) rfl ao cap ss rfl hst1 HNL.out ?c1 ?c2 ?_)
  case c1 => omega
  case c2 => simp
  intro v2 w2 hown2 hb2
  have HOWN2 := Lib.hid hown2
  have HB2 := Lib.hid (((Below.refl w1.heap.size w1).alloc (Nat.le_refl _) (.cells #[] 9)).trans hb2)
  clear hown2 hb2 hst1
  have hz2 : w1.heap.size ≤ w2.heap.size := HB2.out.size
  go_wp2_with (at_builtin; refine append_one rfl (.tmp 12) (.tmp 14) 23 rfl w2 w1.heap.size 9 (.string ⟨#[]⟩) 16 Try.underlying23 infoStr rfl HOWN2.out rfl _ rfl rfl ?d1 ?d2 ?d3 ?_)
  case d1 => omega
  case d2 => omega
  case d3 => omega
  intro v3 w3 hown3 hb3 _ _
  have hown4 : w3.ownsRow w1.heap.size 9 1 v3 (ss.length + 1) ((ss ++ [s]).map Value.string) := by rw [List.map_append]; exact hown3
  obtain ⟨ao3, cap3, rfl, hst3, _⟩ := owns_strs hown4
  have HB3 := Lib.hid (HB1.out.trans ((HB2.out.trans hb3).mono hz1))
  have HST3 := Lib.hid hst3
  clear hown3 hown4 hb3 hst3
  have hz3 : w.heap.size ≤ w3.heap.size := HB3.out.size
  go_wp2_with fail
  refine (large12n ao3 cap3 (ss ++ [s]) (ss.length + 1) (by simp) _ HST3.out (by
    intro t ht
    rcases List.mem_append.1 ht with h | h
    · exact HSZ.out t h
    · rw [List.mem_singleton.1 h]; exact hs) (by simp; omega)).mono ?_
  rintro e w4 ⟨rfl, rfl⟩
  by_cases hL : largeP (ss ++ [s]) = true
  · rw [hL]
    go_wp2_with fail
    go_ret
    exact ⟨rfl, HB3.out⟩
  · have hL2 : ¬ (100 < (ss ++ [s]).length ∨ 4096 < sumLen (ss ++ [s])) := fun h => hL (decide_eq_true h)
    rw [show largeP (ss ++ [s]) = false by simpa using hL]
    rw [sumLen_snoc, List.length_append, List.length_singleton] at hL2
    have hl1 : ss.length ≤ 99 := by omega
    have hl2 : sumLen ss + s.size ≤ 4096 := by omega
    clear hL hL2
    have hO0 := Lib.hid (show OutAt w3.heap.size w3.heap.size [] (w3.alloc (.cells #[.pointer none, .slice none 0 0] 31)) from isBuilder_new _ _ (Nat.le_refl _))
    have HB4 := Lib.hid (HB3.out.alloc HB3.out.size (.cells #[.pointer none, .slice none 0 0] 31))
    have hz4 : w3.heap.size < (w3.alloc (.cells #[.pointer none, .slice none 0 0] 31)).heap.size := by simp
    go_wp2_with fail
    generalize w3.alloc (.cells #[.pointer none, .slice none 0 0] 31) = w4 at hO0 HB4 hz4 ⊢
    generalize w3.heap.size = B at hO0 hz4 hz3 ⊢
    have hn9 := numL_short n
    refine (ONum_walk B B [] n _ hO0.out (by simp) (by omega)).mono ?_
    rintro e w5 ⟨rfl, h5, hb5, _⟩
    have H5 := Lib.hid h5
    have HB5 := Lib.hid (HB4.out.trans (hb5.mono hz3))
    have hz5 : w4.heap.size ≤ w5.heap.size := hb5.size
    clear h5 hb5
    go_wp2_with fail
    refine (OText_walk B B _ s _ H5.out (by omega) (by rw [List.nil_append]; omega) (by omega)).mono ?_
    rintro e w6 ⟨rfl, h6, hb6, _⟩
    have H6 := Lib.hid h6
    have HB6 := Lib.hid (HB5.out.trans (hb6.mono hz3))
    have hz6 : w5.heap.size ≤ w6.heap.size := hb6.size
    clear h6 hb6
    have hst6 := HSS.out.below HB6.out
    have htl : (textL s.data.toList).length ≤ s.size + 9 := by
      unfold textL
      rw [List.length_append, len_list]
      have := numL_short (BitVec.ofNat 64 s.size)
      omega
    go_wp2_with fail
    refine (OList_walk B B _ ao cap ss _ H6.out hst6 (by
      intro hne k off e
      left
      obtain ⟨b0, o0, e0, z0, _⟩ := HSS.out 0 (List.length_pos_iff.2 hne)
      rw [e] at e0
      injection e0 with e0
      injection e0 with e0 _
      subst e0
      omega) (by rw [List.nil_append, List.length_append]; omega) (by omega) (by omega) (by omega)).mono ?_
    rintro e w7 ⟨rfl, h7, hb7, _⟩
    have H7 := Lib.hid h7
    have HB7 := Lib.hid (HB6.out.trans (hb7.mono hz3))
    have hz7 : w6.heap.size ≤ w7.heap.size := hb7.size
    clear h7 hb7 hst6
    go_wp2_with fail
    refine (OString_walk B B _ _ H7.out (by omega)).mono ?_
    rintro e w8 ⟨r8, rfl, hr8, _, hb8, _⟩
    have HB8 := Lib.hid (HB7.out.trans (hb8.mono hz3))
    have HR8 := Lib.hid hr8
    clear hr8 hb8
    go_wp2_with fail
    refine (RNum_walk n _).mono ?_
    rintro e w9 ⟨r9, rfl, hr9, hb9⟩
    have hs9 : r9.size ≤ 9 := by rw [hr9.size]; exact hn9
    have HR9 := Lib.hid hr9
    have HB9 := Lib.hid (bthen HB8.out hb9)
    clear hr9 hb9
    go_wp2_with fail
    refine (RText_walk s (by omega) _).mono ?_
    rintro e w10 ⟨r10, rfl, hr10, hs10, hb10⟩
    have HR10 := Lib.hid hr10
    have HB10 := Lib.hid (bthen HB9.out hb10)
    clear hr10 hb10
    have hst10 := HSS.out.below HB10.out
    have hs10' : r10.size ≤ 5000 := by omega
    go_wp2_with fail
    refine (RList_walk ao cap ss _ hst10 (by omega) (by omega)).mono ?_
    rintro e w11 ⟨r11, rfl, hr11, hb11⟩
    have hs11 : r11.size ≤ 100000 := by
      rw [hr11.size]
      unfold listL
      have h1 := flat_le ss ss.length
      rw [List.take_of_length_le (by simp [bytesOf]), List.take_length] at h1
      have h2 := numL_short (BitVec.ofNat 64 (bytesOf ss).length)
      rw [List.length_append]
      omega
    have q1 : seq r8 (r9 ++ r10 ++ r11) = true := by
      refine seq_is HR8.out ?_
      rw [List.nil_append]
      exact (HR9.out.append HR10.out).append hr11
    have HB11 := Lib.hid (bthen HB10.out hb11)
    clear hr11 hb11 hst10
    go_wp2_with fail
    refine (PNum_walk n _).mono ?_
    rintro e w12 ⟨r12, rfl, hr12, hb12⟩
    go_wp2_with fail
    refine (RNum_walk n _).mono ?_
    rintro e w13 ⟨r13, rfl, hr13, hb13⟩
    have q2 : seq r12 r13 = true := seq_is hr12 hr13
    have HB13 := Lib.hid (bthen (bthen HB11.out hb12) hb13)
    clear hr12 hr13 hb12 hb13
    go_wp2_with fail
    refine (PText_walk s (by omega) _).mono ?_
    rintro e w14 ⟨r14, rfl, hr14, _, hb14⟩
    go_wp2_with fail
    refine (RText_walk s (by omega) _).mono ?_
    rintro e w15 ⟨r15, rfl, hr15, _, hb15⟩
    have q3 : seq r14 r15 = true := seq_is hr14 hr15
    have HB15 := Lib.hid (bthen (bthen HB13.out hb14) hb15)
    clear hr14 hr15 hb14 hb15
    go_wp2_with fail
    go_ret
    exact ⟨rfl, HB15.out⟩
end Go.Proofs.Ytfdncifnokkclaa
