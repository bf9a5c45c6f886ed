/-
  Layer 12, the program's package pack: a text, and a list, taken.
-/
import Derived.Test.YtfdncifnokkclaaPackN
import Derived.Test.YtfdncifnokkclaaPackO
namespace Go.Proofs.Ytfdncifnokkclaa
open Go.RowKit

theorem numR_most (r : Rd) (most : BitVec 64) : (numR r most).1.toNat ≤ most.toNat := by
  unfold numR
  split
  · split
    · exact Nat.zero_le _
    · split
      · exact Nat.zero_le _
      · rename_i h
        have : ¬ most < _ := fun e => h (Or.inr e)
        rw [BitVec.lt_def] at this
        exact Nat.not_lt.1 this
  · exact Nat.zero_le _
theorem numR_len (r : Rd) (most : BitVec 64) : (numR r most).2.l.length ≤ r.l.length := by
  obtain ⟨l, x⟩ := r
  unfold numR
  split
  · rename_i h t e1 e2
    split
    · exact Nat.zero_le _
    · split
      · exact Nat.zero_le _
      · simp only at e2; subst e2; simp; omega
  · exact Nat.zero_le _
theorem mostOf_toNat (most : Int) (h : most ≤ 9223372036854775807) : ((mostOf most).toNat : Int) = max most 0 := by
  unfold mostOf
  rw [BitVec.toNat_ofInt]
  simp
  omega

set_option maxHeartbeats 1000000 in
theorem TextIn_walk (b : Nat) (r : Rd) (most : Int) (hm : most ≤ 9223372036854775807) (w : World) (h : InAt w b r) (hl : r.l.length ≤ 140737488351000) :
    Calls Try.prog 30 #[.pointer (some ⟨b, 0, none⟩), .int .i64 most] w fun e w' =>
      ∃ s, e = .returned (.string s) ∧ Is s (textR r most).1 ∧ InAt w' b (textR r most).2 ∧ Only b w w' := by
  have h1 := numR_most r (mostOf most)
  have h2 := mostOf_toNat most hm
  have h3 := numR_len r (mostOf most)
  have HT := Lib.hid (show textR r most = takeR (numR r (mostOf most)).2 (numR r (mostOf most)).1.toNat from rfl)
  have HM := Lib.hid (show BitVec.ofInt 64 (max most 0) = mostOf most from rfl)
  have HI := Lib.hid h
  clear h
  go_enter Try.func30, Try.ntmps30
  go_wp2_with fail
  rw [HM.out]
  refine (NumIn_walk b r _ _ HI.out hl).mono ?_
  rintro e w1 ⟨rfl, hn1, ho1⟩
  have HN1 := Lib.hid hn1
  have HO1 := Lib.hid ho1
  clear hn1 ho1
  have hv : ∃ n : Nat, (numR r (mostOf most)).1.toNat = n ∧ n ≤ 9223372036854775807 := ⟨_, rfl, by omega⟩
  obtain ⟨n, hn, hn2⟩ := hv
  have hb : bvi (numR r (mostOf most)).1 = (n : Int) := by unfold bvi; rw [hn]
  have HN := Lib.hid hn
  rw [hb]
  clear hb hn h1 h2
  go_wp2_with fail
  refine (take_walk b _ n _ HN1.out (by omega)).mono ?_
  rintro e w2 ⟨s, rfl, hs, h2, ho2⟩
  go_wp2_with fail
  go_ret
  exact ⟨s, rfl, by rw [HT.out, HN.out]; exact hs, by rw [HT.out, HN.out]; exact h2, HO1.out.trans ho2⟩

theorem infoStr : (Try.prog.info? 9).map (fun i => (i.zero, i.size, i.bytes)) = some (some (.string ⟨#[]⟩), 1, 16) := by kernel_rfl

/-- Strings that the call gathered. -/
theorem owns_strs {w : World} {B : Nat} {v : Value} {n : Nat} {ss : List ByteArray} (h : w.ownsRow B 9 1 v n (ss.map Value.string)) :
    ∃ ao cap, v = .slice ao ss.length cap ∧ StrsAt w ao ss ∧ (∀ k off, ao = some ⟨k, off, none⟩ → B ≤ k ∧ ∃ cs fz, w.heap[k]? = some (.cells cs 9 fz)) := by
  have hl : ss.length = n := by have := h.1; simpa using this
  rcases h.2 with ⟨rfl, rfl⟩ | ⟨g, cap, cur, rfl, hB, hg, hnc, _, hcs, ht⟩
  · refine ⟨none, 0, by rw [hl], ?_, by intro k off e; cases e⟩
    intro i hi
    omega
  · refine ⟨some ⟨g, 0, none⟩, cap, by rw [hl], ?_, ?_⟩
    · intro i hi
      refine ⟨g, 0, rfl, (Array.getElem?_eq_some_iff.1 hg).1, ?_⟩
      have h1 : (cur.toList.take (n * 1))[i]? = (ss.map Value.string)[i]? := by rw [ht]
      rw [List.getElem?_take, if_pos (by omega)] at h1
      simp only [World.cell?, hg, Nat.zero_add]
      simpa [hi] using h1
    · intro k off e
      injection e with e
      injection e with e1 _
      subst e1
      exact ⟨by omega, _, _, hg⟩
theorem Only.ownsRow {b B : Nat} {w w' : World} {e : TypeId} {v : Value} {n : Nat} {xs : List Value} (h : w.ownsRow B e 1 v n xs) (ho : Only b w w') (hb : b < B) : w'.ownsRow B e 1 v n xs := by
  refine ⟨h.1, ?_⟩
  rcases h.2 with hn | ⟨g, cap, cur, hv, hBg, hg, rest⟩
  · exact .inl hn
  · exact .inr ⟨g, cap, cur, hv, hBg, (ho.block g (Array.getElem?_eq_some_iff.1 hg).1 (by omega)).trans hg, rest⟩
theorem InAt.low {w w' : World} {b B : Nat} {r : Rd} (h : InAt w b r) (hb : Below B w w') (hB : b < B) : InAt w' b r := by
  obtain ⟨s, hs, hr⟩ := h
  exact ⟨s, hs, hr.below hb hB⟩
theorem Only.of_low {b B : Nat} {w w' w2 : World} (h : Only b w w') (hb : Below B w' w2) (hB : w.heap.size ≤ B) : Only b w w2 :=
  ⟨hb.os.trans h.os, hb.tape.trans h.tape, hb.output.trans h.output, Nat.le_trans h.size hb.size, fun k hk hne => (hb.block k (by omega)).trans (h.block k hk hne)⟩

def preR (ls : List (List UInt8)) (x : Option (List (List UInt8)) × Rd) : Option (List (List UInt8)) × Rd := (x.1.map (ls ++ ·), x.2)
theorem preR_nil (x : Option (List (List UInt8)) × Rd) : preR [] x = x := by
  obtain ⟨a, b⟩ := x
  cases a <;> rfl
theorem textsR_step (most : Int) (n : Nat) (r : Rd) (ls : List (List UInt8)) (h : (textR r most).2.bad = false) :
    preR ls (textsR most (n + 1) r) = preR (ls ++ [(textR r most).1]) (textsR most n (textR r most).2) := by
  rw [textsR]
  simp only [h]
  rcases textsR most n (textR r most).2 with ⟨a, b⟩
  cases a <;> simp [preR]
theorem textsR_bad (most : Int) (n : Nat) (r : Rd) (ls : List (List UInt8)) (h : (textR r most).2.bad = true) :
    preR ls (textsR most (n + 1) r) = (none, (textR r most).2) := by
  rw [textsR]
  simp [h, preR]
theorem numR_uses (r : Rd) (most : BitVec 64) (h : (numR r most).2.bad = false) : (numR r most).2.l.length + 1 ≤ r.l.length := by
  obtain ⟨l, x⟩ := r
  unfold numR at h ⊢
  split at h
  · rename_i y t e1 e2
    split at h
    · cases h
    · split at h
      · cases h
      · rename_i h1 h2
        simp only at e2 e1; subst e2
        rw [if_neg h1, if_neg h2]
        simp
  · cases h
theorem textR_uses (r : Rd) (most : Int) (h : (textR r most).2.bad = false) : (textR r most).2.l.length + 1 ≤ r.l.length := by
  unfold textR takeR at h ⊢
  split at h
  · cases h
  · rename_i h1
    rw [if_neg h1]
    have h2 : (numR r (mostOf most)).2.bad = false := by
      cases e : (numR r (mostOf most)).2.bad
      · rfl
      · exact absurd (Or.inl e) h1
    have := numR_uses r _ h2
    simp
    omega

set_option maxRecDepth 100000 in
set_option maxHeartbeats 2000000 in
theorem ListIn_walk (b : Nat) (r : Rd) (many most : Int) (hm : most ≤ 9223372036854775807) (w : World) (h : InAt w b r) (hl : r.l.length ≤ 1000000) :
    Calls Try.prog 33 #[.pointer (some ⟨b, 0, none⟩), .int .i64 many, .int .i64 most] w fun e w' =>
      ∃ ao cap ss, e = .returned (.slice ao (ss : List ByteArray).length cap) ∧ bytesOf ss = ((listR r many most).1).getD [] ∧ StrsAt w' ao ss ∧ (∀ k off, ao = some ⟨k, off, none⟩ → w.heap.size ≤ k ∧ ∃ cs fz, w'.heap[k]? = some (.cells cs 9 fz)) ∧ InAt w' b (listR r many most).2 ∧ Only b w w' := by
  have h1 := numR_len r (mostOf many)
  have hblt := h.lt
  have HM := Lib.hid (show BitVec.ofInt 64 (max many 0) = mostOf many from rfl)
  have HI := Lib.hid h
  have HL := Lib.hid (show listR r many most = preR [] (textsR most (numR r (mostOf many)).1.toNat (numR r (mostOf many)).2) by rw [preR_nil]; rfl)
  clear h
  go_enter Try.func33, Try.ntmps33
  go_wp2_with fail
  rw [HM.out]
  refine (NumIn_walk b r _ _ HI.out (by omega)).mono ?_
  rintro e w1 ⟨rfl, hn1, ho1⟩
  have HN1 := Lib.hid hn1
  have HO1 := Lib.hid ho1
  clear hn1 ho1
  generalize (numR r (mostOf many)).1 = n at HL HN1 ⊢
  generalize (numR r (mostOf many)).2 = r1 at HL HN1 h1 ⊢
  go_wp2_with fail
  go_loopw [7, 16] (fun v i wr => ∃ (r' : Rd) (ss : List ByteArray), ss.length ≤ n.toNat ∧ i = .int .u64 (bvi (BitVec.ofNat 64 ss.length)) ∧ InAt wr b r' ∧ wr.ownsRow w.heap.size 9 1 v ss.length (ss.map Value.string) ∧ Only b w wr ∧
      ss.length + r'.l.length ≤ 1000000 ∧ Hid (listR r many most = preR (bytesOf ss) (textsR most (n.toNat - ss.length) r'))) (fun _ i _ => n.toNat - (intOf i).toNat)
  case atStart => exact ⟨r1, [], Nat.zero_le _, rfl, HN1.out, World.ownsRow_nil _ _ _ _, HO1.out, by simp; omega, HL.out⟩
  case round =>
    obtain ⟨r', ss, hk, rfl, hin, hown, ho, hlen, hlist⟩ := hrel
    have HIN := Lib.hid hin
    have HOWN := Lib.hid hown
    have HO := Lib.hid ho
    clear hin hown ho
    generalize hkk : ss.length = k at hk hlen ⊢
    have HK := Lib.hid hkk
    clear hkk
    have hkb : bvi (BitVec.ofNat 64 k) = (k : Int) := by
      unfold bvi
      rw [BitVec.toNat_ofNat, Nat.mod_eq_of_lt (by omega)]
    have hnb : bvi n = (n.toNat : Int) := rfl
    rcases Nat.lt_or_ge k n.toNat with hlt | hge
    · have hcmp : bvi (BitVec.ofNat 64 k) < bvi n := by rw [hkb, hnb]; omega
      have HKB := Lib.hid hkb
      have HLT := Lib.hid hlt
      clear hkb hnb hlt hk
      go_wp2_with fail
      refine (TextIn_walk b r' most hm _ HIN.out (by omega)).mono ?_
      rintro e w2 ⟨s, rfl, hs, h2, ho2⟩
      have h2' := h2
      obtain ⟨s2, hs2, hr2, c1⟩ := h2'.cells
      have HS := Lib.hid hs
      have H2 := Lib.hid h2
      have HO2 := Lib.hid ho2
      clear hs h2 h2' ho2 hs2 hr2
      cases hbad : (textR r' most).2.bad
      · rw [hbad] at c1
        have huse := textR_uses r' most hbad
        have HBAD := Lib.hid hbad
        clear hbad
        have hown2 := Only.ownsRow HOWN.out HO2.out hblt
        rw [HK.out] at hown2
        have hsz2 : w.heap.size ≤ w2.heap.size := Nat.le_trans HO.out.size HO2.out.size
        go_wp2_with (at_builtin; refine append_one rfl _ _ 23 rfl w2 w.heap.size 9 (.string ⟨#[]⟩) 16 Try.underlying23 infoStr rfl hown2 rfl _ rfl rfl ?c1 ?c2 ?c3 ?_)
        case c1 => omega
        case c2 => omega
        case c3 => omega
        intro v' w3 hown3 hb3 _ _
        have HOWN3 := Lib.hid hown3
        have HB3 := Lib.hid hb3
        clear hown2 hown3 hb3
        go_wp2_with fail
        go_roundw
        case rel =>
          have hls := hlist.out
          rw [HK.out, show n.toNat - k = (n.toNat - (k + 1)) + 1 by have := HLT.out; omega, textsR_step _ _ _ _ HBAD.out] at hls
          refine ⟨(textR r' most).2, ss ++ [s], by rw [List.length_append, HK.out]; have := HLT.out; simp; omega, ?_, H2.out.low HB3.out hblt, ?_, (HO.out.trans HO2.out).of_low HB3.out (Nat.le_refl _), by rw [List.length_append, HK.out]; simp; omega, ?_⟩
          · rw [List.length_append, HK.out]
            exact congrArg (fun x => Value.int .u64 (bvi x)) (by rw [show ([s] : List ByteArray).length = 1 from rfl, BitVec.ofNat_add])
          · rw [List.length_append, HK.out, List.map_append]
            exact HOWN3.out
          · unfold Hid
            rw [hls, List.length_append, HK.out]
            simp [bytesOf, HS.out.out]
        case measure =>
          have h1 := HKB.out
          have h2 := HLT.out
          have h3 : bvi (BitVec.ofNat 64 k + 1#64) = (k : Int) + 1 := by
            have := n.isLt
            unfold bvi
            rw [show BitVec.ofNat 64 k + 1#64 = BitVec.ofNat 64 (k + 1) from (BitVec.ofNat_add k 1).symm, BitVec.toNat_ofNat, Nat.mod_eq_of_lt (by omega)]
            omega
          simp only [intOf, h1, h3]
          omega
      · rw [hbad] at c1
        have HBAD := Lib.hid hbad
        clear hbad
        go_wp2_with fail
        go_ret
        have hls := hlist.out
        rw [HK.out, show n.toNat - k = (n.toNat - (k + 1)) + 1 by have := HLT.out; omega, textsR_bad _ _ _ _ HBAD.out] at hls
        refine ⟨none, 0, [], rfl, by rw [hls]; rfl, (fun i hi => by simp at hi), (fun k off e => by cases e), by rw [hls]; exact H2.out, HO.out.trans HO2.out⟩
    · obtain rfl : k = n.toNat := by omega
      have hcmp : bvi n ≤ bvi (BitVec.ofNat 64 n.toNat) := by rw [hkb, hnb]; omega
      obtain ⟨ao, cap, rfl, hst, hlo⟩ := owns_strs HOWN.out
      have HST := Lib.hid hst
      have HLO := Lib.hid hlo
      clear hkb hnb hst hlo
      go_wp2_with fail
      go_ret
      have hls := hlist.out
      rw [HK.out, Nat.sub_self, textsR] at hls
      refine ⟨ao, cap, ss, rfl, by rw [hls]; simp [preR], HST.out, HLO.out, by rw [hls]; exact HIN.out, HO.out⟩
end Go.Proofs.Ytfdncifnokkclaa
