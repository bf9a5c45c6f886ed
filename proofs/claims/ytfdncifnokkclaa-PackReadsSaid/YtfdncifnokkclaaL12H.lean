/-
  Layer 12's laws, walked: PackReads.
-/
import Derived.Test.YtfdncifnokkclaaL12C
import Derived.Test.YtfdncifnokkclaaL12D
import Derived.Test.YtfdncifnokkclaaRpackL
namespace Go.Proofs.Ytfdncifnokkclaa
open Go.RowKit

theorem RInAt.only {w w' : World} {b c : Nat} {r : Rd} (h : RInAt w b r) (ho : Only c w w') (hne : b ≠ c) : RInAt w' b r := by
  obtain ⟨s, hs, hr⟩ := h
  exact ⟨s, hs, (ho.block b hr.lt hne).trans hr⟩
theorem RowAt.only {w w' : World} {b c : Nat} {cs : Array Value} {T : TypeId} {fz : Nat × Nat} (h : RowAt w b cs T fz) (ho : Only c w w') (hne : b ≠ c) : RowAt w' b cs T fz := (ho.block b h.lt hne).trans h
/-- Two readers, the program's and the reference's; which of them has taken; the ask. -/
def Two (W : World) (ib rb ab : Nat) (r0 r2 : Rd) (A : Array Value) (x y : Bool) (w : World) : Prop :=
  InAt w ib (if x = true then r2 else r0) ∧ RInAt w rb (if y = true then r2 else r0) ∧ RowAt w ab A 56 (0, 0) ∧ Below W.heap.size W w
theorem Two.drew {W : World} {ib rb ab : Nat} {r0 r2 : Rd} {A : Array Value} {x y : Bool} {w : World} (h : Two W ib rb ab r0 r2 A x y w) : Two W ib rb ab r0 r2 A x y w.drew := by
  obtain ⟨⟨s1, h1, k1⟩, ⟨s2, h2, k2⟩, h3, h4⟩ := h
  exact ⟨⟨s1, h1, k1.drew⟩, ⟨s2, h2, k2.drew⟩, h3.drew, h4.drew⟩
theorem Two.one {W : World} {ib rb ab : Nat} {r0 r2 : Rd} {A : Array Value} {y : Bool} {w w' : World} (h : Two W ib rb ab r0 r2 A false y w) (hi : InAt w' ib r2) (ho : Only ib w w') (hW : W.heap.size ≤ ib) (h1 : rb ≠ ib) (h2 : ab ≠ ib) : Two W ib rb ab r0 r2 A true y w' :=
  ⟨hi, h.2.1.only ho h1, h.2.2.1.only ho h2, h.2.2.2.trans (ho.below hW h.2.2.2.size)⟩
theorem Two.two {W : World} {ib rb ab : Nat} {r0 r2 : Rd} {A : Array Value} {x : Bool} {w w' : World} (h : Two W ib rb ab r0 r2 A x false w) (hi : RInAt w' rb r2) (ho : Only rb w w') (hW : W.heap.size ≤ rb) (h1 : ib ≠ rb) (h2 : ab ≠ rb) : Two W ib rb ab r0 r2 A x true w' :=
  ⟨h.1.only ho h1, hi, h.2.2.1.only ho h2, h.2.2.2.trans (ho.below hW h.2.2.2.size)⟩
/-- Strings of the call's own, but for the block rb. -/
def StrsFar (rb : Nat) (v : Value) (ls : List (List UInt8)) (w : World) : Prop :=
  ∃ ao cap, ∃ ss : List ByteArray, v = .slice ao ss.length cap ∧ bytesOf ss = ls ∧ StrsAt w ao ss ∧ ∀ k off, ao = some ⟨k, off, none⟩ → k ≠ rb
theorem StrsFar.only {rb : Nat} {v : Value} {ls : List (List UInt8)} {w w' : World} (h : StrsFar rb v ls w) (ho : Only rb w w') : StrsFar rb v ls w' := by
  obtain ⟨ao, cap, ss, hv, hb, hs, hne⟩ := h
  refine ⟨ao, cap, ss, hv, hb, ?_, hne⟩
  intro i hi
  obtain ⟨b, off, e, hlt, hc⟩ := hs i hi
  refine ⟨b, off, e, Nat.lt_of_lt_of_le hlt ho.size, ?_⟩
  rw [← hc]
  simp only [World.cell?, ho.block b hlt (hne b off e)]
/-- Both lists, as far as they have been taken. -/
def TwoL (W : World) (ib rb ab : Nat) (r0 r2 : Rd) (A : Array Value) (ls : List (List UInt8)) (x y : Bool) (u v : Value) (w : World) : Prop :=
  Two W ib rb ab r0 r2 A x y w ∧ (x = true → StrsFar rb u ls w) ∧ (y = true → ∃ ao cap, ∃ ss : List ByteArray, v = .slice ao ss.length cap ∧ bytesOf ss = ls ∧ StrsAt w ao ss)
set_option maxRecDepth 100000 in
set_option maxHeartbeats 8000000 in
theorem PackReads_w (s : ByteArray) (ao : Option Addr) (cap : Nat) (aks : List AskV) (w : World) (has : AsksAt w ao aks) (hok : ∀ a ∈ aks, a.ok) :
    Calls Try.prog 6 #[.string s, .slice ao aks.length cap] w fun e w' => e = .returned (.bool true) ∧ Below w.heap.size w w' := by
  rcases Nat.lt_or_ge 4096 s.size with hbig | hs
  · go_enter Try.func6, Try.ntmps6
    go_wp2_with fail
    refine (awake12 _).mono ?_
    rintro e w1 ⟨rfl, hb1⟩
    go_wp2_with fail
    go_ret
    exact ⟨rfl, hb1⟩
  · go_enter Try.func6, Try.ntmps6
    go_wp2_with fail
    refine (awake12 _).mono ?_
    rintro e w1 ⟨rfl, hb1⟩
    go_wp2_with fail
    refine (From_walk s _).mono ?_
    rintro e w2 ⟨rfl, rfl⟩
    go_wp2_with fail
    have hI0 : InAt ((w1.alloc (.cells #[.string s, .bool false] 47)).alloc (.cells #[.string s, .bool false] 54)) w1.heap.size ⟨s.data.toList, false⟩ := ⟨s, Is.self s, (RowAt.new w1 _ _ _).alloc _⟩
    have hR0 : RInAt ((w1.alloc (.cells #[.string s, .bool false] 47)).alloc (.cells #[.string s, .bool false] 54)) (w1.heap.size + 1) ⟨s.data.toList, false⟩ := ⟨s, Is.self s, by
      have := RowAt.new (w1.alloc (.cells #[.string s, .bool false] 47)) #[.string s, .bool false] 54 (0, 0)
      rwa [show (w1.alloc (.cells #[.string s, .bool false] 47)).heap.size = w1.heap.size + 1 by simp] at this⟩
    have hb2 : Below w.heap.size w ((w1.alloc (.cells #[.string s, .bool false] 47)).alloc (.cells #[.string s, .bool false] 54)) := below_alloc2 hb1 _ _ hb1.size
    have zW : w.heap.size ≤ w1.heap.size := hb1.size
    generalize (w1.alloc (.cells #[.string s, .bool false] 47)).alloc (.cells #[.string s, .bool false] 54) = w2 at hI0 hR0 hb2 ⊢
    obtain ⟨rb, hrb⟩ : ∃ rb, rb = w1.heap.size + 1 := ⟨_, rfl⟩
    have zR : w.heap.size ≤ rb := by omega
    have zne : rb ≠ w1.heap.size := by omega
    rw [← hrb] at hR0 ⊢
    clear hrb
    generalize w1.heap.size = ib at hI0 zW zne ⊢
    have HI0 := Lib.hid hI0
    have HR0 := Lib.hid hR0
    have HB2 := Lib.hid hb2
    have HAS := Lib.hid has
    have HOK := Lib.hid hok
    have hl0 : s.data.toList.length ≤ 4096 := by rw [len_list]; exact hs
    clear hI0 hR0 hb2 has hok hb1
    go_loopw [7] (fun i wr => ∃ (k : Nat) (r : Rd), k ≤ aks.length ∧ i = .int .i64 k ∧ r.l.length ≤ 4096 ∧ InAt wr ib r ∧ RInAt wr rb r ∧ Below w.heap.size w wr) (fun i _ => aks.length - (intOf i).toNat)
    case atStart => exact ⟨0, ⟨s.data.toList, false⟩, Nat.zero_le _, rfl, hl0, HI0.out, HR0.out, HB2.out⟩
    case round =>
      obtain ⟨k, r, hk, rfl, hrl, hI, hR, hbel⟩ := hrel
      have HI := Lib.hid hI
      have HR := Lib.hid hR
      have HB := Lib.hid hbel
      clear hI hR hbel
      rcases Nat.lt_or_ge k aks.length with hlt | hge
      · rcases Nat.lt_or_ge k 100 with h100 | h100
        · obtain ⟨bb, off, rfl, hbl, c0, c1, c2, c3⟩ := HAS.out k hlt
          have e0 := HB.out.cell (p := ⟨bb, off + k * 4, none⟩) hbl
          have e1 := HB.out.cell (p := ⟨bb, off + k * 4 + 1, none⟩) hbl
          have e2 := HB.out.cell (p := ⟨bb, off + k * 4 + 2, none⟩) hbl
          have e3 := HB.out.cell (p := ⟨bb, off + k * 4 + 3, none⟩) hbl
          rw [c0] at e0
          rw [c1] at e1
          rw [c2] at e2
          rw [c3] at e3
          have hd1 : decide ((k : Int) < (aks.length : Int)) = true := decide_eq_true (by omega)
          have hd2 : decide ((k : Int) < 100) = true := decide_eq_true (by omega)
          clear c0 c1 c2 c3
          have hask := HOK.out aks[k] (List.getElem_mem hlt)
          generalize aks[k] = ask at e0 e1 e2 e3 hask
          obtain ⟨kd, K, M, N⟩ := ask
          simp only [] at e0 e1 e2 e3
          have hM : M ≤ 9223372036854775807 := hask.2.2
          have hKK : K ≤ 9223372036854775807 := hask.1.2
          clear hask
          have zI : ib < wr.heap.size := HI.out.lt
          have zB : rb < wr.heap.size := HR.out.lt
          have HT := Lib.hid (show ∀ r2, Two w ib rb wr.heap.size r r2 #[.int .i64 kd, .int .i64 K, .int .i64 M, .int .u64 (bvi N)] false false (wr.alloc (.cells #[.int .i64 kd, .int .i64 K, .int .i64 M, .int .u64 (bvi N)] 56)) from fun r2 => ⟨HI.out.low ((Below.refl wr.heap.size wr).alloc (Nat.le_refl _) _) zI, HR.out.low ((Below.refl wr.heap.size wr).alloc (Nat.le_refl _) _) zB, RowAt.new wr _ _ _, HB.out.alloc HB.out.size _⟩)
          by_cases k0 : kd = 0
          · have k0b : (kd == 0) = true := by rw [beq_iff_eq]; exact k0
            clear k0
            go_wp2_with fail
            refine region_table (by kernel_rfl) [37, 38, 39, 40, 41, 42, 43, 44, 45, 46, 47]
              (fun i x => match i with
                | 0 => x = .pointer (some ⟨ib, 0, none⟩)
                | 1 => x = .pointer (some ⟨ib, 0, none⟩)
                | 2 => x = .pointer (some ⟨ib, 0, none⟩)
                | 3 => x = .pointer (some ⟨wr.heap.size, 3, none⟩)
                | 4 => x = .int .u64 (bvi N)
                | 5 => x = .int .u64 (bvi (numR r N).1)
                | 6 => x = .pointer (some ⟨rb, 0, none⟩)
                | 7 => x = .pointer (some ⟨wr.heap.size, 3, none⟩)
                | 8 => x = .int .u64 (bvi N)
                | 9 => x = .int .u64 (bvi (numR r N).1)
                | 10 => x = .bool false
                | _ => True) (fun L _ w' => Two w ib rb wr.heap.size r (numR r N).2 #[.int .i64 kd, .int .i64 K, .int .i64 M, .int .u64 (bvi N)] (L 5) (L 9) w') (by kernel_rfl) (by kernel_rfl) rfl (by kernel_rfl) ((HT.out (numR r N).2).drew) ?_ ?_
            · refine StepsOk.cons ?_ (StepsOk.cons ?_ (StepsOk.cons ?_ (StepsOk.cons ?_ (StepsOk.cons ?_ (StepsOk.cons ?_ (StepsOk.cons ?_ (StepsOk.cons ?_ (StepsOk.cons ?_ (StepsOk.cons ?_ (StepsOk.cons ?_ StepsOk.nil))))))))))
              · intro L a w4 Kx hl hsz hs ht hr he hK
                refine step_plain rfl ?_
                have h5 : a.tmps.getD 5 undef = .pointer (some ⟨ib, 0, none⟩) := (hs 5 (by decide)).trans rfl
                go_simp
                exact hK _ _ rfl (by simpa using hr)
              · intro L a w4 Kx hl hsz hs ht hr he hK
                refine step_plain rfl ?_
                have h37 : a.tmps.getD 37 undef = .pointer (some ⟨ib, 0, none⟩) := ht 0 (he 0 (by kernel_rfl)) 37 rfl
                go_simp
                exact hK _ _ rfl (by simpa using hr)
              · intro L a w4 Kx hl hsz hs ht hr he hK
                refine step_plain rfl ?_
                have h38 : a.tmps.getD 38 undef = .pointer (some ⟨ib, 0, none⟩) := ht 1 (he 1 (by kernel_rfl)) 38 rfl
                go_simp
                exact hK _ _ rfl (by simpa using hr)
              · intro L a w4 Kx hl hsz hs ht hr he hK
                refine step_plain rfl ?_
                have h8 : a.tmps.getD 8 undef = .pointer (some ⟨wr.heap.size, 0, none⟩) := (hs 8 (by decide)).trans rfl
                go_simp
                exact hK _ _ rfl (by simpa using hr)
              · intro L a w4 Kx hl hsz hs ht hr he hK
                refine step_plain rfl ?_
                have h40 : a.tmps.getD 40 undef = .pointer (some ⟨wr.heap.size, 3, none⟩) := ht 3 (he 3 (by kernel_rfl)) 40 rfl
                have c3 := hr.2.2.1.cell (i := 3) rfl
                go_simp
                exact hK _ _ rfl (by simpa using hr)
              · intro L a w4 Kx hl hsz hs ht hr he hK
                refine step_plain rfl ?_
                have h39 : a.tmps.getD 39 undef = .pointer (some ⟨ib, 0, none⟩) := ht 2 (he 2 (by kernel_rfl)) 39 rfl
                have h41 : a.tmps.getD 41 undef = .int .u64 (bvi N) := ht 4 (he 4 (by kernel_rfl)) 41 rfl
                go_simp
                have hr' : Two w ib rb wr.heap.size r (numR r N).2 #[.int .i64 kd, .int .i64 K, .int .i64 M, .int .u64 (bvi N)] (L 5) (L 9) w4 := hr
                rw [hl] at hr'
                refine (NumIn_walk ib r N _ hr'.1 (by omega)).mono ?_
                rintro e w5 ⟨rfl, h5, ho5⟩
                exact hK _ _ rfl (by simpa using hr'.one h5 ho5 zW zne (by omega))
              · intro L a w4 Kx hl hsz hs ht hr he hK
                refine step_plain rfl ?_
                have h6 : a.tmps.getD 6 undef = .pointer (some ⟨rb, 0, none⟩) := (hs 6 (by decide)).trans rfl
                go_simp
                exact hK _ _ rfl (by simpa using hr)
              · intro L a w4 Kx hl hsz hs ht hr he hK
                refine step_plain rfl ?_
                have h8 : a.tmps.getD 8 undef = .pointer (some ⟨wr.heap.size, 0, none⟩) := (hs 8 (by decide)).trans rfl
                go_simp
                exact hK _ _ rfl (by simpa using hr)
              · intro L a w4 Kx hl hsz hs ht hr he hK
                refine step_plain rfl ?_
                have h44 : a.tmps.getD 44 undef = .pointer (some ⟨wr.heap.size, 3, none⟩) := ht 7 (he 7 (by kernel_rfl)) 44 rfl
                have c3 := hr.2.2.1.cell (i := 3) rfl
                go_simp
                exact hK _ _ rfl (by simpa using hr)
              · intro L a w4 Kx hl hsz hs ht hr he hK
                refine step_plain rfl ?_
                have h43 : a.tmps.getD 43 undef = .pointer (some ⟨rb, 0, none⟩) := ht 6 (he 6 (by kernel_rfl)) 43 rfl
                have h45 : a.tmps.getD 45 undef = .int .u64 (bvi N) := ht 8 (he 8 (by kernel_rfl)) 45 rfl
                go_simp
                have hr' : Two w ib rb wr.heap.size r (numR r N).2 #[.int .i64 kd, .int .i64 K, .int .i64 M, .int .u64 (bvi N)] (L 5) (L 9) w4 := hr
                rw [hl] at hr'
                refine (RNumIn_walk rb r N _ hr'.2.1 (by omega)).mono ?_
                rintro e w5 ⟨rfl, h5, ho5⟩
                exact hK _ _ rfl (by simpa using hr'.two h5 ho5 zR zne.symm (by omega))
              · intro L a w4 Kx hl hsz hs ht hr he hK
                refine step_plain rfl ?_
                have h42 : a.tmps.getD 42 undef = .int .u64 (bvi (numR r N).1) := ht 5 (he 5 (by kernel_rfl)) 42 rfl
                have h46 : a.tmps.getD 46 undef = .int .u64 (bvi (numR r N).1) := ht 9 (he 9 (by kernel_rfl)) 46 rfl
                go_simp
                exact hK _ _ rfl (by simpa using hr)
            · intro f L w4 hf hall hr
              have h47 : f 47 = .bool false := hf 10 (by decide) 47 rfl
              simp only [List.foldl, Act.put, List.setIfInBounds_toArray, List.set_cons_zero, List.set_cons_succ]
              rw [h47]
              clear hf h47
              have hr' : Two w ib rb wr.heap.size r (numR r N).2 #[.int .i64 kd, .int .i64 K, .int .i64 M, .int .u64 (bvi N)] (L 5) (L 9) w4 := hr
              rw [hall 5 (by decide), hall 9 (by decide)] at hr'
              clear hr hall
              generalize f 37 = y37
              generalize f 38 = y38
              generalize f 39 = y39
              generalize f 40 = y40
              generalize f 41 = y41
              generalize f 42 = y42
              generalize f 43 = y43
              generalize f 44 = y44
              generalize f 45 = y45
              generalize f 46 = y46
              go_wp2_with fail
              obtain ⟨hI4, hR4, _, hB4⟩ := hr'
              have hI5 : InAt w4 ib (numR r N).2 := hI4
              have hR5 : RInAt w4 rb (numR r N).2 := hR4
              have hl5 : ((numR r N).2).l.length ≤ 4096 := Nat.le_trans (numR_len r N) hrl
              generalize (numR r N).2 = r2 at hI5 hR5 hl5
              clear hI4 hR4
              refine region_table (by kernel_rfl) [77, 78, 79, 80, 81, 82, 83, 84, 85, 86, 87, 88, 89, 90, 91, 92, 93, 94, 95]
                (fun i x => match i with
                  | 0 => x = .pointer (some ⟨ib, 0, none⟩)
                  | 1 => x = .pointer (some ⟨ib, 0, none⟩)
                  | 2 => x = .pointer (some ⟨ib, 0, none⟩)
                  | 3 => x = .int .i64 (r2.l.length : Nat)
                  | 4 => x = .pointer (some ⟨rb, 0, none⟩)
                  | 5 => x = .pointer (some ⟨rb, 0, none⟩)
                  | 6 => x = .pointer (some ⟨rb, 0, none⟩)
                  | 7 => ∃ t, x = .string t ∧ Is t r2.l
                  | 8 => x = .int .i64 (r2.l.length : Nat)
                  | 9 => x = .bool false
                  | 10 => x = .bool false
                  | 11 => x = .pointer (some ⟨ib, 0, none⟩)
                  | 12 => x = .pointer (some ⟨ib, 0, none⟩)
                  | 13 => x = .pointer (some ⟨ib, 0, none⟩)
                  | 14 => x = .int .i64 (doneR r2)
                  | 15 => x = .pointer (some ⟨rb, 0, none⟩)
                  | 16 => x = .int .i64 (doneR r2)
                  | 17 => x = .bool false
                  | 18 => x = .bool false
                  | _ => True) (fun _ _ w' => InAt w' ib r2 ∧ RInAt w' rb r2 ∧ Below w.heap.size w w') (by kernel_rfl) (by kernel_rfl) rfl (by kernel_rfl) (by obtain ⟨s1, h1, k1⟩ := hI5; obtain ⟨s2, h2, k2⟩ := hR5; exact ⟨⟨s1, h1, k1.drew⟩, ⟨s2, h2, k2.drew⟩, hB4.drew⟩) ?_ ?_
              · refine StepsOk.cons ?_ (StepsOk.cons ?_ (StepsOk.cons ?_ (StepsOk.cons ?_ (StepsOk.cons ?_ (StepsOk.cons ?_ (StepsOk.cons ?_ (StepsOk.cons ?_ (StepsOk.cons ?_ (StepsOk.cons ?_ (StepsOk.cons ?_ (StepsOk.cons ?_ (StepsOk.cons ?_ (StepsOk.cons ?_ (StepsOk.cons ?_ (StepsOk.cons ?_ (StepsOk.cons ?_ (StepsOk.cons ?_ (StepsOk.cons ?_ StepsOk.nil))))))))))))))))))
                · intro L a w4 Kx hl hsz hs ht hr he hK
                  refine step_plain rfl ?_
                  have h5 : a.tmps.getD 5 undef = .pointer (some ⟨ib, 0, none⟩) := (hs 5 (by decide)).trans rfl
                  go_simp
                  exact hK _ _ rfl hr
                · intro L a w4 Kx hl hsz hs ht hr he hK
                  refine step_plain rfl ?_
                  have h77 : a.tmps.getD 77 undef = .pointer (some ⟨ib, 0, none⟩) := ht 0 (he 0 (by kernel_rfl)) 77 rfl
                  go_simp
                  exact hK _ _ rfl hr
                · intro L a w4 Kx hl hsz hs ht hr he hK
                  refine step_plain rfl ?_
                  have h78 : a.tmps.getD 78 undef = .pointer (some ⟨ib, 0, none⟩) := ht 1 (he 1 (by kernel_rfl)) 78 rfl
                  go_simp
                  exact hK _ _ rfl hr
                · intro L a w4 Kx hl hsz hs ht hr he hK
                  refine step_plain rfl ?_
                  have h79 : a.tmps.getD 79 undef = .pointer (some ⟨ib, 0, none⟩) := ht 2 (he 2 (by kernel_rfl)) 79 rfl
                  go_simp
                  refine (Left_in ib r2 _ hr.1).mono ?_
                  rintro e w5 ⟨rfl, rfl⟩
                  exact hK _ _ rfl hr
                · intro L a w4 Kx hl hsz hs ht hr he hK
                  refine step_plain rfl ?_
                  have h6 : a.tmps.getD 6 undef = .pointer (some ⟨rb, 0, none⟩) := (hs 6 (by decide)).trans rfl
                  go_simp
                  exact hK _ _ rfl hr
                · intro L a w4 Kx hl hsz hs ht hr he hK
                  refine step_plain rfl ?_
                  have h81 : a.tmps.getD 81 undef = .pointer (some ⟨rb, 0, none⟩) := ht 4 (he 4 (by kernel_rfl)) 81 rfl
                  go_simp
                  exact hK _ _ rfl hr
                · intro L a w4 Kx hl hsz hs ht hr he hK
                  refine step_plain rfl ?_
                  have h82 : a.tmps.getD 82 undef = .pointer (some ⟨rb, 0, none⟩) := ht 5 (he 5 (by kernel_rfl)) 82 rfl
                  go_simp
                  exact hK _ _ rfl hr
                · intro L a w4 Kx hl hsz hs ht hr he hK
                  refine step_plain rfl ?_
                  have h83 : a.tmps.getD 83 undef = .pointer (some ⟨rb, 0, none⟩) := ht 6 (he 6 (by kernel_rfl)) 83 rfl
                  obtain ⟨s6, i6, _, c6, _⟩ := hr.2.1.cells
                  go_simp
                  exact hK _ _ ⟨s6, rfl, i6⟩ hr
                · intro L a w4 Kx hl hsz hs ht hr he hK
                  refine step_plain rfl ?_
                  obtain ⟨t7, g7, i7⟩ : ∃ t, a.tmps.getD 84 undef = .string t ∧ Is t r2.l := ht 7 (he 7 (by kernel_rfl)) 84 rfl
                  have z7 : (t7.size : Int) = (r2.l.length : Nat) := by rw [i7.size]
                  clear i7
                  go_simp
                  exact hK _ _ (by first | rfl | rw [z7]) hr
                · intro L a w4 Kx hl hsz hs ht hr he hK
                  refine step_plain rfl ?_
                  have h80 : a.tmps.getD 80 undef = .int .i64 (r2.l.length : Nat) := ht 3 (he 3 (by kernel_rfl)) 80 rfl
                  have h85 : a.tmps.getD 85 undef = .int .i64 (r2.l.length : Nat) := ht 8 (he 8 (by kernel_rfl)) 85 rfl
                  go_simp
                  exact hK _ _ rfl hr
                · intro L a w4 Kx hl hsz hs ht hr he hK
                  refine step_plain rfl ?_
                  have h86 : a.tmps.getD 86 undef = .bool false := ht 9 (he 9 (by kernel_rfl)) 86 rfl
                  go_simp
                  exact hK _ _ rfl hr
                · intro L a w4 Kx hl hsz hs ht hr he hK
                  have h87 : a.tmps.getD 87 undef = .bool (false) := ht 10 (he 10 (by kernel_rfl)) 87 rfl
                  refine step_guard 10 false (false) 87 rfl rfl (by rw [hsz]; exact of_decide_eq_true (by kernel_rfl)) h87 ?_
                  rw [if_pos rfl]
                  have h5 : a.tmps.getD 5 undef = .pointer (some ⟨ib, 0, none⟩) := (hs 5 (by decide)).trans rfl
                  go_simp
                  exact hK _ _ rfl hr
                · intro L a w4 Kx hl hsz hs ht hr he hK
                  have h87 : a.tmps.getD 87 undef = .bool (false) := ht 10 (he 10 (by kernel_rfl)) 87 rfl
                  refine step_guard 10 false (false) 87 rfl rfl (by rw [hsz]; exact of_decide_eq_true (by kernel_rfl)) h87 ?_
                  rw [if_pos rfl]
                  have h88 : a.tmps.getD 88 undef = .pointer (some ⟨ib, 0, none⟩) := ht 11 (he 11 (by kernel_rfl)) 88 rfl
                  go_simp
                  exact hK _ _ rfl hr
                · intro L a w4 Kx hl hsz hs ht hr he hK
                  have h87 : a.tmps.getD 87 undef = .bool (false) := ht 10 (he 10 (by kernel_rfl)) 87 rfl
                  refine step_guard 10 false (false) 87 rfl rfl (by rw [hsz]; exact of_decide_eq_true (by kernel_rfl)) h87 ?_
                  rw [if_pos rfl]
                  have h89 : a.tmps.getD 89 undef = .pointer (some ⟨ib, 0, none⟩) := ht 12 (he 12 (by kernel_rfl)) 89 rfl
                  go_simp
                  exact hK _ _ rfl hr
                · intro L a w4 Kx hl hsz hs ht hr he hK
                  have h87 : a.tmps.getD 87 undef = .bool (false) := ht 10 (he 10 (by kernel_rfl)) 87 rfl
                  refine step_guard 10 false (false) 87 rfl rfl (by rw [hsz]; exact of_decide_eq_true (by kernel_rfl)) h87 ?_
                  rw [if_pos rfl]
                  have h90 : a.tmps.getD 90 undef = .pointer (some ⟨ib, 0, none⟩) := ht 13 (he 13 (by kernel_rfl)) 90 rfl
                  go_simp
                  refine (Done_walk ib r2 _ hr.1).mono ?_
                  rintro e w5 ⟨rfl, rfl⟩
                  exact hK _ _ rfl hr
                · intro L a w4 Kx hl hsz hs ht hr he hK
                  have h87 : a.tmps.getD 87 undef = .bool (false) := ht 10 (he 10 (by kernel_rfl)) 87 rfl
                  refine step_guard 10 false (false) 87 rfl rfl (by rw [hsz]; exact of_decide_eq_true (by kernel_rfl)) h87 ?_
                  rw [if_pos rfl]
                  have h6 : a.tmps.getD 6 undef = .pointer (some ⟨rb, 0, none⟩) := (hs 6 (by decide)).trans rfl
                  go_simp
                  exact hK _ _ rfl hr
                · intro L a w4 Kx hl hsz hs ht hr he hK
                  have h87 : a.tmps.getD 87 undef = .bool (false) := ht 10 (he 10 (by kernel_rfl)) 87 rfl
                  refine step_guard 10 false (false) 87 rfl rfl (by rw [hsz]; exact of_decide_eq_true (by kernel_rfl)) h87 ?_
                  rw [if_pos rfl]
                  have h92 : a.tmps.getD 92 undef = .pointer (some ⟨rb, 0, none⟩) := ht 15 (he 15 (by kernel_rfl)) 92 rfl
                  go_simp
                  refine (RDone_walk rb r2 _ hr.2.1).mono ?_
                  rintro e w5 ⟨rfl, rfl⟩
                  exact hK _ _ rfl hr
                · intro L a w4 Kx hl hsz hs ht hr he hK
                  have h87 : a.tmps.getD 87 undef = .bool (false) := ht 10 (he 10 (by kernel_rfl)) 87 rfl
                  refine step_guard 10 false (false) 87 rfl rfl (by rw [hsz]; exact of_decide_eq_true (by kernel_rfl)) h87 ?_
                  rw [if_pos rfl]
                  have h91 : a.tmps.getD 91 undef = .int .i64 (doneR r2) := ht 14 (he 14 (by kernel_rfl)) 91 rfl
                  have h93 : a.tmps.getD 93 undef = .int .i64 (doneR r2) := ht 16 (he 16 (by kernel_rfl)) 93 rfl
                  go_simp
                  exact hK _ _ rfl hr
                · intro L a w4 Kx hl hsz hs ht hr he hK
                  refine step_plain rfl ?_
                  have h87 : a.tmps.getD 87 undef = .bool false := ht 10 (he 10 (by kernel_rfl)) 87 rfl
                  have h94 : a.tmps.getD 94 undef = .bool false := ht 17 (he 17 (by kernel_rfl)) 94 rfl
                  go_simp
                  exact hK _ _ rfl hr
              · intro f L w4 hf hall hr
                have h95 : f 95 = .bool false := hf 18 (by decide) 95 rfl
                simp only [List.foldl, Act.put, List.setIfInBounds_toArray, List.set_cons_zero, List.set_cons_succ]
                rw [h95]
                clear hf h95
                obtain ⟨hI6, hR6, hB6⟩ := hr
                have HI6 := Lib.hid hI6
                have HR6 := Lib.hid hR6
                have HB6 := Lib.hid hB6
                clear hI6 hR6 hB6 hI5 hR5 hB4
                go_wp2_with fail
                go_roundw
                case rel => exact ⟨k + 1, r2, by omega, by go_num, hl5, HI6.out, HR6.out, HB6.out⟩
                case measure => simp [intOf]; omega
          · have k0b : (kd == 0) = false := by rw [beq_eq_false_iff_ne]; exact k0
            clear k0
            by_cases k1 : kd = 1
            · have k1b : (kd == 1) = true := by rw [beq_iff_eq]; exact k1
              clear k1
              go_wp2_with fail
              refine region_table (by kernel_rfl) [50, 51, 52, 53, 54, 55, 56, 57, 58, 59, 60]
                (fun i x => match i with
                  | 0 => x = .pointer (some ⟨ib, 0, none⟩)
                  | 1 => x = .pointer (some ⟨ib, 0, none⟩)
                  | 2 => x = .pointer (some ⟨ib, 0, none⟩)
                  | 3 => x = .pointer (some ⟨wr.heap.size, 2, none⟩)
                  | 4 => x = .int .i64 M
                  | 5 => ∃ t, x = .string t ∧ Is t (textR r M).1
                  | 6 => x = .pointer (some ⟨rb, 0, none⟩)
                  | 7 => x = .pointer (some ⟨wr.heap.size, 2, none⟩)
                  | 8 => x = .int .i64 M
                  | 9 => ∃ t, x = .string t ∧ Is t (textR r M).1
                  | 10 => x = .bool false
                  | _ => True) (fun L _ w' => Two w ib rb wr.heap.size r (textR r M).2 #[.int .i64 kd, .int .i64 K, .int .i64 M, .int .u64 (bvi N)] (L 5) (L 9) w') (by kernel_rfl) (by kernel_rfl) rfl (by kernel_rfl) ((HT.out (textR r M).2).drew) ?_ ?_
              · refine StepsOk.cons ?_ (StepsOk.cons ?_ (StepsOk.cons ?_ (StepsOk.cons ?_ (StepsOk.cons ?_ (StepsOk.cons ?_ (StepsOk.cons ?_ (StepsOk.cons ?_ (StepsOk.cons ?_ (StepsOk.cons ?_ (StepsOk.cons ?_ StepsOk.nil))))))))))
                · intro L a w4 Kx hl hsz hs ht hr he hK
                  refine step_plain rfl ?_
                  have h5 : a.tmps.getD 5 undef = .pointer (some ⟨ib, 0, none⟩) := (hs 5 (by decide)).trans rfl
                  go_simp
                  exact hK _ _ rfl (by simpa using hr)
                · intro L a w4 Kx hl hsz hs ht hr he hK
                  refine step_plain rfl ?_
                  have h50 : a.tmps.getD 50 undef = .pointer (some ⟨ib, 0, none⟩) := ht 0 (he 0 (by kernel_rfl)) 50 rfl
                  go_simp
                  exact hK _ _ rfl (by simpa using hr)
                · intro L a w4 Kx hl hsz hs ht hr he hK
                  refine step_plain rfl ?_
                  have h51 : a.tmps.getD 51 undef = .pointer (some ⟨ib, 0, none⟩) := ht 1 (he 1 (by kernel_rfl)) 51 rfl
                  go_simp
                  exact hK _ _ rfl (by simpa using hr)
                · intro L a w4 Kx hl hsz hs ht hr he hK
                  refine step_plain rfl ?_
                  have h8 : a.tmps.getD 8 undef = .pointer (some ⟨wr.heap.size, 0, none⟩) := (hs 8 (by decide)).trans rfl
                  go_simp
                  exact hK _ _ rfl (by simpa using hr)
                · intro L a w4 Kx hl hsz hs ht hr he hK
                  refine step_plain rfl ?_
                  have h53 : a.tmps.getD 53 undef = .pointer (some ⟨wr.heap.size, 2, none⟩) := ht 3 (he 3 (by kernel_rfl)) 53 rfl
                  have c2 := hr.2.2.1.cell (i := 2) rfl
                  go_simp
                  exact hK _ _ rfl (by simpa using hr)
                · intro L a w4 Kx hl hsz hs ht hr he hK
                  refine step_plain rfl ?_
                  have h52 : a.tmps.getD 52 undef = .pointer (some ⟨ib, 0, none⟩) := ht 2 (he 2 (by kernel_rfl)) 52 rfl
                  have h54 : a.tmps.getD 54 undef = .int .i64 M := ht 4 (he 4 (by kernel_rfl)) 54 rfl
                  go_simp
                  have hr' : Two w ib rb wr.heap.size r (textR r M).2 #[.int .i64 kd, .int .i64 K, .int .i64 M, .int .u64 (bvi N)] (L 5) (L 9) w4 := hr
                  rw [hl] at hr'
                  refine (TextIn_walk ib r M hM _ hr'.1 (by omega)).mono ?_
                  rintro e w5 ⟨t5, rfl, ht5, h5, ho5⟩
                  exact hK _ _ ⟨t5, rfl, ht5⟩ (by simpa using hr'.one h5 ho5 zW zne (by omega))
                · intro L a w4 Kx hl hsz hs ht hr he hK
                  refine step_plain rfl ?_
                  have h6 : a.tmps.getD 6 undef = .pointer (some ⟨rb, 0, none⟩) := (hs 6 (by decide)).trans rfl
                  go_simp
                  exact hK _ _ rfl (by simpa using hr)
                · intro L a w4 Kx hl hsz hs ht hr he hK
                  refine step_plain rfl ?_
                  have h8 : a.tmps.getD 8 undef = .pointer (some ⟨wr.heap.size, 0, none⟩) := (hs 8 (by decide)).trans rfl
                  go_simp
                  exact hK _ _ rfl (by simpa using hr)
                · intro L a w4 Kx hl hsz hs ht hr he hK
                  refine step_plain rfl ?_
                  have h57 : a.tmps.getD 57 undef = .pointer (some ⟨wr.heap.size, 2, none⟩) := ht 7 (he 7 (by kernel_rfl)) 57 rfl
                  have c2 := hr.2.2.1.cell (i := 2) rfl
                  go_simp
                  exact hK _ _ rfl (by simpa using hr)
                · intro L a w4 Kx hl hsz hs ht hr he hK
                  refine step_plain rfl ?_
                  have h56 : a.tmps.getD 56 undef = .pointer (some ⟨rb, 0, none⟩) := ht 6 (he 6 (by kernel_rfl)) 56 rfl
                  have h58 : a.tmps.getD 58 undef = .int .i64 M := ht 8 (he 8 (by kernel_rfl)) 58 rfl
                  go_simp
                  have hr' : Two w ib rb wr.heap.size r (textR r M).2 #[.int .i64 kd, .int .i64 K, .int .i64 M, .int .u64 (bvi N)] (L 5) (L 9) w4 := hr
                  rw [hl] at hr'
                  refine (RTextIn_walk rb r M hM _ hr'.2.1 (by omega)).mono ?_
                  rintro e w5 ⟨t5, rfl, ht5, h5, ho5⟩
                  exact hK _ _ ⟨t5, rfl, ht5⟩ (by simpa using hr'.two h5 ho5 zR zne.symm (by omega))
                · intro L a w4 Kx hl hsz hs ht hr he hK
                  refine step_plain rfl ?_
                  obtain ⟨t1, g1, i1⟩ : ∃ t, a.tmps.getD 55 undef = .string t ∧ Is t (textR r M).1 := ht 5 (he 5 (by kernel_rfl)) 55 rfl
                  obtain ⟨t2, g2, i2⟩ : ∃ t, a.tmps.getD 59 undef = .string t ∧ Is t (textR r M).1 := ht 9 (he 9 (by kernel_rfl)) 59 rfl
                  have hq := seq_is i1 i2
                  clear i1 i2
                  go_simp
                  exact hK _ _ rfl (by simpa using hr)
              · intro f L w4 hf hall hr
                have h60 : f 60 = .bool false := hf 10 (by decide) 60 rfl
                simp only [List.foldl, Act.put, List.setIfInBounds_toArray, List.set_cons_zero, List.set_cons_succ]
                rw [h60]
                clear hf h60
                have hr' : Two w ib rb wr.heap.size r (textR r M).2 #[.int .i64 kd, .int .i64 K, .int .i64 M, .int .u64 (bvi N)] (L 5) (L 9) w4 := hr
                rw [hall 5 (by decide), hall 9 (by decide)] at hr'
                clear hr hall
                generalize f 50 = y50
                generalize f 51 = y51
                generalize f 52 = y52
                generalize f 53 = y53
                generalize f 54 = y54
                generalize f 55 = y55
                generalize f 56 = y56
                generalize f 57 = y57
                generalize f 58 = y58
                generalize f 59 = y59
                go_wp2_with fail
                obtain ⟨hI4, hR4, _, hB4⟩ := hr'
                have hI5 : InAt w4 ib (textR r M).2 := hI4
                have hR5 : RInAt w4 rb (textR r M).2 := hR4
                have hl5 : ((textR r M).2).l.length ≤ 4096 := Nat.le_trans (textR_len r M) hrl
                generalize (textR r M).2 = r2 at hI5 hR5 hl5
                clear hI4 hR4
                refine region_table (by kernel_rfl) [77, 78, 79, 80, 81, 82, 83, 84, 85, 86, 87, 88, 89, 90, 91, 92, 93, 94, 95]
                  (fun i x => match i with
                    | 0 => x = .pointer (some ⟨ib, 0, none⟩)
                    | 1 => x = .pointer (some ⟨ib, 0, none⟩)
                    | 2 => x = .pointer (some ⟨ib, 0, none⟩)
                    | 3 => x = .int .i64 (r2.l.length : Nat)
                    | 4 => x = .pointer (some ⟨rb, 0, none⟩)
                    | 5 => x = .pointer (some ⟨rb, 0, none⟩)
                    | 6 => x = .pointer (some ⟨rb, 0, none⟩)
                    | 7 => ∃ t, x = .string t ∧ Is t r2.l
                    | 8 => x = .int .i64 (r2.l.length : Nat)
                    | 9 => x = .bool false
                    | 10 => x = .bool false
                    | 11 => x = .pointer (some ⟨ib, 0, none⟩)
                    | 12 => x = .pointer (some ⟨ib, 0, none⟩)
                    | 13 => x = .pointer (some ⟨ib, 0, none⟩)
                    | 14 => x = .int .i64 (doneR r2)
                    | 15 => x = .pointer (some ⟨rb, 0, none⟩)
                    | 16 => x = .int .i64 (doneR r2)
                    | 17 => x = .bool false
                    | 18 => x = .bool false
                    | _ => True) (fun _ _ w' => InAt w' ib r2 ∧ RInAt w' rb r2 ∧ Below w.heap.size w w') (by kernel_rfl) (by kernel_rfl) rfl (by kernel_rfl) (by obtain ⟨s1, h1, k1⟩ := hI5; obtain ⟨s2, h2, k2⟩ := hR5; exact ⟨⟨s1, h1, k1.drew⟩, ⟨s2, h2, k2.drew⟩, hB4.drew⟩) ?_ ?_
                · refine StepsOk.cons ?_ (StepsOk.cons ?_ (StepsOk.cons ?_ (StepsOk.cons ?_ (StepsOk.cons ?_ (StepsOk.cons ?_ (StepsOk.cons ?_ (StepsOk.cons ?_ (StepsOk.cons ?_ (StepsOk.cons ?_ (StepsOk.cons ?_ (StepsOk.cons ?_ (StepsOk.cons ?_ (StepsOk.cons ?_ (StepsOk.cons ?_ (StepsOk.cons ?_ (StepsOk.cons ?_ (StepsOk.cons ?_ (StepsOk.cons ?_ StepsOk.nil))))))))))))))))))
                  · intro L a w4 Kx hl hsz hs ht hr he hK
                    refine step_plain rfl ?_
                    have h5 : a.tmps.getD 5 undef = .pointer (some ⟨ib, 0, none⟩) := (hs 5 (by decide)).trans rfl
                    go_simp
                    exact hK _ _ rfl hr
                  · intro L a w4 Kx hl hsz hs ht hr he hK
                    refine step_plain rfl ?_
                    have h77 : a.tmps.getD 77 undef = .pointer (some ⟨ib, 0, none⟩) := ht 0 (he 0 (by kernel_rfl)) 77 rfl
                    go_simp
                    exact hK _ _ rfl hr
                  · intro L a w4 Kx hl hsz hs ht hr he hK
                    refine step_plain rfl ?_
                    have h78 : a.tmps.getD 78 undef = .pointer (some ⟨ib, 0, none⟩) := ht 1 (he 1 (by kernel_rfl)) 78 rfl
                    go_simp
                    exact hK _ _ rfl hr
                  · intro L a w4 Kx hl hsz hs ht hr he hK
                    refine step_plain rfl ?_
                    have h79 : a.tmps.getD 79 undef = .pointer (some ⟨ib, 0, none⟩) := ht 2 (he 2 (by kernel_rfl)) 79 rfl
                    go_simp
                    refine (Left_in ib r2 _ hr.1).mono ?_
                    rintro e w5 ⟨rfl, rfl⟩
                    exact hK _ _ rfl hr
                  · intro L a w4 Kx hl hsz hs ht hr he hK
                    refine step_plain rfl ?_
                    have h6 : a.tmps.getD 6 undef = .pointer (some ⟨rb, 0, none⟩) := (hs 6 (by decide)).trans rfl
                    go_simp
                    exact hK _ _ rfl hr
                  · intro L a w4 Kx hl hsz hs ht hr he hK
                    refine step_plain rfl ?_
                    have h81 : a.tmps.getD 81 undef = .pointer (some ⟨rb, 0, none⟩) := ht 4 (he 4 (by kernel_rfl)) 81 rfl
                    go_simp
                    exact hK _ _ rfl hr
                  · intro L a w4 Kx hl hsz hs ht hr he hK
                    refine step_plain rfl ?_
                    have h82 : a.tmps.getD 82 undef = .pointer (some ⟨rb, 0, none⟩) := ht 5 (he 5 (by kernel_rfl)) 82 rfl
                    go_simp
                    exact hK _ _ rfl hr
                  · intro L a w4 Kx hl hsz hs ht hr he hK
                    refine step_plain rfl ?_
                    have h83 : a.tmps.getD 83 undef = .pointer (some ⟨rb, 0, none⟩) := ht 6 (he 6 (by kernel_rfl)) 83 rfl
                    obtain ⟨s6, i6, _, c6, _⟩ := hr.2.1.cells
                    go_simp
                    exact hK _ _ ⟨s6, rfl, i6⟩ hr
                  · intro L a w4 Kx hl hsz hs ht hr he hK
                    refine step_plain rfl ?_
                    obtain ⟨t7, g7, i7⟩ : ∃ t, a.tmps.getD 84 undef = .string t ∧ Is t r2.l := ht 7 (he 7 (by kernel_rfl)) 84 rfl
                    have z7 : (t7.size : Int) = (r2.l.length : Nat) := by rw [i7.size]
                    clear i7
                    go_simp
                    exact hK _ _ (by first | rfl | rw [z7]) hr
                  · intro L a w4 Kx hl hsz hs ht hr he hK
                    refine step_plain rfl ?_
                    have h80 : a.tmps.getD 80 undef = .int .i64 (r2.l.length : Nat) := ht 3 (he 3 (by kernel_rfl)) 80 rfl
                    have h85 : a.tmps.getD 85 undef = .int .i64 (r2.l.length : Nat) := ht 8 (he 8 (by kernel_rfl)) 85 rfl
                    go_simp
                    exact hK _ _ rfl hr
                  · intro L a w4 Kx hl hsz hs ht hr he hK
                    refine step_plain rfl ?_
                    have h86 : a.tmps.getD 86 undef = .bool false := ht 9 (he 9 (by kernel_rfl)) 86 rfl
                    go_simp
                    exact hK _ _ rfl hr
                  · intro L a w4 Kx hl hsz hs ht hr he hK
                    have h87 : a.tmps.getD 87 undef = .bool (false) := ht 10 (he 10 (by kernel_rfl)) 87 rfl
                    refine step_guard 10 false (false) 87 rfl rfl (by rw [hsz]; exact of_decide_eq_true (by kernel_rfl)) h87 ?_
                    rw [if_pos rfl]
                    have h5 : a.tmps.getD 5 undef = .pointer (some ⟨ib, 0, none⟩) := (hs 5 (by decide)).trans rfl
                    go_simp
                    exact hK _ _ rfl hr
                  · intro L a w4 Kx hl hsz hs ht hr he hK
                    have h87 : a.tmps.getD 87 undef = .bool (false) := ht 10 (he 10 (by kernel_rfl)) 87 rfl
                    refine step_guard 10 false (false) 87 rfl rfl (by rw [hsz]; exact of_decide_eq_true (by kernel_rfl)) h87 ?_
                    rw [if_pos rfl]
                    have h88 : a.tmps.getD 88 undef = .pointer (some ⟨ib, 0, none⟩) := ht 11 (he 11 (by kernel_rfl)) 88 rfl
                    go_simp
                    exact hK _ _ rfl hr
                  · intro L a w4 Kx hl hsz hs ht hr he hK
                    have h87 : a.tmps.getD 87 undef = .bool (false) := ht 10 (he 10 (by kernel_rfl)) 87 rfl
                    refine step_guard 10 false (false) 87 rfl rfl (by rw [hsz]; exact of_decide_eq_true (by kernel_rfl)) h87 ?_
                    rw [if_pos rfl]
                    have h89 : a.tmps.getD 89 undef = .pointer (some ⟨ib, 0, none⟩) := ht 12 (he 12 (by kernel_rfl)) 89 rfl
                    go_simp
                    exact hK _ _ rfl hr
                  · intro L a w4 Kx hl hsz hs ht hr he hK
                    have h87 : a.tmps.getD 87 undef = .bool (false) := ht 10 (he 10 (by kernel_rfl)) 87 rfl
                    refine step_guard 10 false (false) 87 rfl rfl (by rw [hsz]; exact of_decide_eq_true (by kernel_rfl)) h87 ?_
                    rw [if_pos rfl]
                    have h90 : a.tmps.getD 90 undef = .pointer (some ⟨ib, 0, none⟩) := ht 13 (he 13 (by kernel_rfl)) 90 rfl
                    go_simp
                    refine (Done_walk ib r2 _ hr.1).mono ?_
                    rintro e w5 ⟨rfl, rfl⟩
                    exact hK _ _ rfl hr
                  · intro L a w4 Kx hl hsz hs ht hr he hK
                    have h87 : a.tmps.getD 87 undef = .bool (false) := ht 10 (he 10 (by kernel_rfl)) 87 rfl
                    refine step_guard 10 false (false) 87 rfl rfl (by rw [hsz]; exact of_decide_eq_true (by kernel_rfl)) h87 ?_
                    rw [if_pos rfl]
                    have h6 : a.tmps.getD 6 undef = .pointer (some ⟨rb, 0, none⟩) := (hs 6 (by decide)).trans rfl
                    go_simp
                    exact hK _ _ rfl hr
                  · intro L a w4 Kx hl hsz hs ht hr he hK
                    have h87 : a.tmps.getD 87 undef = .bool (false) := ht 10 (he 10 (by kernel_rfl)) 87 rfl
                    refine step_guard 10 false (false) 87 rfl rfl (by rw [hsz]; exact of_decide_eq_true (by kernel_rfl)) h87 ?_
                    rw [if_pos rfl]
                    have h92 : a.tmps.getD 92 undef = .pointer (some ⟨rb, 0, none⟩) := ht 15 (he 15 (by kernel_rfl)) 92 rfl
                    go_simp
                    refine (RDone_walk rb r2 _ hr.2.1).mono ?_
                    rintro e w5 ⟨rfl, rfl⟩
                    exact hK _ _ rfl hr
                  · intro L a w4 Kx hl hsz hs ht hr he hK
                    have h87 : a.tmps.getD 87 undef = .bool (false) := ht 10 (he 10 (by kernel_rfl)) 87 rfl
                    refine step_guard 10 false (false) 87 rfl rfl (by rw [hsz]; exact of_decide_eq_true (by kernel_rfl)) h87 ?_
                    rw [if_pos rfl]
                    have h91 : a.tmps.getD 91 undef = .int .i64 (doneR r2) := ht 14 (he 14 (by kernel_rfl)) 91 rfl
                    have h93 : a.tmps.getD 93 undef = .int .i64 (doneR r2) := ht 16 (he 16 (by kernel_rfl)) 93 rfl
                    go_simp
                    exact hK _ _ rfl hr
                  · intro L a w4 Kx hl hsz hs ht hr he hK
                    refine step_plain rfl ?_
                    have h87 : a.tmps.getD 87 undef = .bool false := ht 10 (he 10 (by kernel_rfl)) 87 rfl
                    have h94 : a.tmps.getD 94 undef = .bool false := ht 17 (he 17 (by kernel_rfl)) 94 rfl
                    go_simp
                    exact hK _ _ rfl hr
                · intro f L w4 hf hall hr
                  have h95 : f 95 = .bool false := hf 18 (by decide) 95 rfl
                  simp only [List.foldl, Act.put, List.setIfInBounds_toArray, List.set_cons_zero, List.set_cons_succ]
                  rw [h95]
                  clear hf h95
                  obtain ⟨hI6, hR6, hB6⟩ := hr
                  have HI6 := Lib.hid hI6
                  have HR6 := Lib.hid hR6
                  have HB6 := Lib.hid hB6
                  clear hI6 hR6 hB6 hI5 hR5 hB4
                  go_wp2_with fail
                  go_roundw
                  case rel => exact ⟨k + 1, r2, by omega, by go_num, hl5, HI6.out, HR6.out, HB6.out⟩
                  case measure => simp [intOf]; omega
            · have k1b : (kd == 1) = false := by rw [beq_eq_false_iff_ne]; exact k1
              clear k1
              by_cases k2 : kd = 2
              · have k2b : (kd == 2) = true := by rw [beq_iff_eq]; exact k2
                clear k2
                go_wp2_with fail
                refine region_table (by kernel_rfl) [63, 64, 65, 66, 67, 68, 69, 70, 71, 72, 73, 74, 75, 76]
                  (fun i x => match i with
                    | 0 => x = .pointer (some ⟨ib, 0, none⟩)
                    | 1 => x = .pointer (some ⟨wr.heap.size, 1, none⟩)
                    | 2 => x = .int .i64 K
                    | 3 => x = .pointer (some ⟨wr.heap.size, 2, none⟩)
                    | 4 => x = .int .i64 M
                    | 5 => True
                    | 6 => x = .pointer (some ⟨rb, 0, none⟩)
                    | 7 => x = .pointer (some ⟨wr.heap.size, 1, none⟩)
                    | 8 => x = .int .i64 K
                    | 9 => x = .pointer (some ⟨wr.heap.size, 2, none⟩)
                    | 10 => x = .int .i64 M
                    | 11 => True
                    | 12 => x = .bool true
                    | 13 => x = .bool false
                    | _ => True) (fun L g w' => TwoL w ib rb wr.heap.size r (listR r K M).2 #[.int .i64 kd, .int .i64 K, .int .i64 M, .int .u64 (bvi N)] ((listR r K M).1.getD []) (L 5) (L 11) (g 68) (g 74) w' ∧ (L 11 = true → L 5 = true)) (by kernel_rfl) (by kernel_rfl) rfl (by kernel_rfl) (⟨⟨(HT.out (listR r K M).2).drew, (fun h => by cases h), (fun h => by cases h)⟩, fun h => by cases h⟩) ?_ ?_
                · refine StepsOk.cons ?_ (StepsOk.cons ?_ (StepsOk.cons ?_ (StepsOk.cons ?_ (StepsOk.cons ?_ (StepsOk.cons ?_ (StepsOk.cons ?_ (StepsOk.cons ?_ (StepsOk.cons ?_ (StepsOk.cons ?_ (StepsOk.cons ?_ (StepsOk.cons ?_ (StepsOk.cons ?_ (StepsOk.cons ?_ StepsOk.nil)))))))))))))
                  · intro L a w4 Kx hl hsz hs ht hr he hK
                    refine step_plain rfl ?_
                    have h5 : a.tmps.getD 5 undef = .pointer (some ⟨ib, 0, none⟩) := (hs 5 (by decide)).trans rfl
                    go_simp
                    exact hK _ _ rfl (by simpa [slot_ne] using hr)
                  · intro L a w4 Kx hl hsz hs ht hr he hK
                    refine step_plain rfl ?_
                    have h8 : a.tmps.getD 8 undef = .pointer (some ⟨wr.heap.size, 0, none⟩) := (hs 8 (by decide)).trans rfl
                    go_simp
                    exact hK _ _ rfl (by simpa [slot_ne] using hr)
                  · intro L a w4 Kx hl hsz hs ht hr he hK
                    refine step_plain rfl ?_
                    have h64 : a.tmps.getD 64 undef = .pointer (some ⟨wr.heap.size, 1, none⟩) := ht 1 (he 1 (by kernel_rfl)) 64 rfl
                    have c1 := hr.1.1.2.2.1.cell (i := 1) rfl
                    go_simp
                    exact hK _ _ rfl (by simpa [slot_ne] using hr)
                  · intro L a w4 Kx hl hsz hs ht hr he hK
                    refine step_plain rfl ?_
                    have h8 : a.tmps.getD 8 undef = .pointer (some ⟨wr.heap.size, 0, none⟩) := (hs 8 (by decide)).trans rfl
                    go_simp
                    exact hK _ _ rfl (by simpa [slot_ne] using hr)
                  · intro L a w4 Kx hl hsz hs ht hr he hK
                    refine step_plain rfl ?_
                    have h66 : a.tmps.getD 66 undef = .pointer (some ⟨wr.heap.size, 2, none⟩) := ht 3 (he 3 (by kernel_rfl)) 66 rfl
                    have c2 := hr.1.1.2.2.1.cell (i := 2) rfl
                    go_simp
                    exact hK _ _ rfl (by simpa [slot_ne] using hr)
                  · intro L a w4 Kx hl hsz hs ht hr he hK
                    refine step_plain rfl ?_
                    have h63 : a.tmps.getD 63 undef = .pointer (some ⟨ib, 0, none⟩) := ht 0 (he 0 (by kernel_rfl)) 63 rfl
                    have h65 : a.tmps.getD 65 undef = .int .i64 K := ht 2 (he 2 (by kernel_rfl)) 65 rfl
                    have h67 : a.tmps.getD 67 undef = .int .i64 M := ht 4 (he 4 (by kernel_rfl)) 67 rfl
                    go_simp
                    have hr0 : TwoL w ib rb wr.heap.size r (listR r K M).2 #[.int .i64 kd, .int .i64 K, .int .i64 M, .int .u64 (bvi N)] ((listR r K M).1.getD []) (L 5) (L 11) (slot a 68) (slot a 74) w4 := hr.1
                    have hx : L 11 = false := by
                      cases hy : L 11 with
                      | false => rfl
                      | true => have := hr.2 hy; rw [hl] at this; cases this
                    rw [hl, hx] at hr0
                    obtain ⟨h2, h3, h4⟩ := hr0
                    refine (ListIn_walk ib r K M hM _ h2.1 (by omega)).mono ?_
                    rintro e w5 ⟨ao5, cap5, ss5, rfl, hss5, hst5, hlo5, h5, ho5⟩
                    refine hK _ _ trivial ?_
                    show TwoL w ib rb wr.heap.size r (listR r K M).2 #[.int .i64 kd, .int .i64 K, .int .i64 M, .int .u64 (bvi N)] ((listR r K M).1.getD []) (L 5 || true) (L 11 || false) _ _ w5 ∧ ((L 11 || false) = true → (L 5 || true) = true)
                    rw [Bool.or_true, Bool.or_false, hx]
                    refine ⟨⟨h2.one h5 ho5 zW zne (by omega), fun _ => ?_, fun h => by cases h⟩, fun _ => rfl⟩
                    rw [slot_out (by rw [hsz]; exact of_decide_eq_true (by kernel_rfl))]
                    refine ⟨ao5, cap5, ss5, rfl, hss5, hst5, fun k2 off2 e2 => ?_⟩
                    have := (hlo5 k2 off2 e2).1
                    have := h2.2.1.lt
                    omega
                  · intro L a w4 Kx hl hsz hs ht hr he hK
                    refine step_plain rfl ?_
                    have h6 : a.tmps.getD 6 undef = .pointer (some ⟨rb, 0, none⟩) := (hs 6 (by decide)).trans rfl
                    go_simp
                    exact hK _ _ rfl (by simpa [slot_ne] using hr)
                  · intro L a w4 Kx hl hsz hs ht hr he hK
                    refine step_plain rfl ?_
                    have h8 : a.tmps.getD 8 undef = .pointer (some ⟨wr.heap.size, 0, none⟩) := (hs 8 (by decide)).trans rfl
                    go_simp
                    exact hK _ _ rfl (by simpa [slot_ne] using hr)
                  · intro L a w4 Kx hl hsz hs ht hr he hK
                    refine step_plain rfl ?_
                    have h70 : a.tmps.getD 70 undef = .pointer (some ⟨wr.heap.size, 1, none⟩) := ht 7 (he 7 (by kernel_rfl)) 70 rfl
                    have c1 := hr.1.1.2.2.1.cell (i := 1) rfl
                    go_simp
                    exact hK _ _ rfl (by simpa [slot_ne] using hr)
                  · intro L a w4 Kx hl hsz hs ht hr he hK
                    refine step_plain rfl ?_
                    have h8 : a.tmps.getD 8 undef = .pointer (some ⟨wr.heap.size, 0, none⟩) := (hs 8 (by decide)).trans rfl
                    go_simp
                    exact hK _ _ rfl (by simpa [slot_ne] using hr)
                  · intro L a w4 Kx hl hsz hs ht hr he hK
                    refine step_plain rfl ?_
                    have h72 : a.tmps.getD 72 undef = .pointer (some ⟨wr.heap.size, 2, none⟩) := ht 9 (he 9 (by kernel_rfl)) 72 rfl
                    have c2 := hr.1.1.2.2.1.cell (i := 2) rfl
                    go_simp
                    exact hK _ _ rfl (by simpa [slot_ne] using hr)
                  · intro L a w4 Kx hl hsz hs ht hr he hK
                    refine step_plain rfl ?_
                    have h69 : a.tmps.getD 69 undef = .pointer (some ⟨rb, 0, none⟩) := ht 6 (he 6 (by kernel_rfl)) 69 rfl
                    have h71 : a.tmps.getD 71 undef = .int .i64 K := ht 8 (he 8 (by kernel_rfl)) 71 rfl
                    have h73 : a.tmps.getD 73 undef = .int .i64 M := ht 10 (he 10 (by kernel_rfl)) 73 rfl
                    go_simp
                    have hr0 : TwoL w ib rb wr.heap.size r (listR r K M).2 #[.int .i64 kd, .int .i64 K, .int .i64 M, .int .u64 (bvi N)] ((listR r K M).1.getD []) (L 5) (L 11) (slot a 68) (slot a 74) w4 := hr.1
                    have hx : L 5 = true := he 5 (by kernel_rfl)
                    rw [hl, hx] at hr0
                    obtain ⟨h2, h3, h4⟩ := hr0
                    refine (RListIn_walk rb r K M hM _ h2.2.1 (by omega)).mono ?_
                    rintro e w5 ⟨ao5, cap5, ss5, rfl, hss5, hst5, hlo5, h5, ho5⟩
                    refine hK _ _ trivial ?_
                    show TwoL w ib rb wr.heap.size r (listR r K M).2 #[.int .i64 kd, .int .i64 K, .int .i64 M, .int .u64 (bvi N)] ((listR r K M).1.getD []) (L 5 || false) (L 11 || true) _ _ w5 ∧ ((L 11 || true) = true → (L 5 || false) = true)
                    rw [Bool.or_true, Bool.or_false, hx]
                    refine ⟨⟨h2.two h5 ho5 zR zne.symm (by omega), fun h => ?_, fun _ => ?_⟩, fun _ => rfl⟩
                    · rw [slot_ne _ _ _ _ (by decide)]
                      exact (h3 rfl).only ho5
                    · rw [slot_out (by rw [hsz]; exact of_decide_eq_true (by kernel_rfl))]
                      exact ⟨ao5, cap5, ss5, rfl, hss5, hst5⟩
                  · intro L a w4 Kx hl hsz hs ht hr he hK
                    refine step_plain rfl ?_
                    have hr0 : TwoL w ib rb wr.heap.size r (listR r K M).2 #[.int .i64 kd, .int .i64 K, .int .i64 M, .int .u64 (bvi N)] ((listR r K M).1.getD []) (L 5) (L 11) (slot a 68) (slot a 74) w4 := hr.1
                    have hx : L 5 = true := he 5 (by kernel_rfl)
                    have hy : L 11 = true := he 11 (by kernel_rfl)
                    rw [hy, hx] at hr0
                    obtain ⟨h2, h3, h4⟩ := hr0
                    obtain ⟨ao1, cap1, ss1, g68, hb1, hs1, _⟩ := h3 rfl
                    obtain ⟨ao2, cap2, ss2, g74, hb2, hs2⟩ := h4 rfl
                    have h68 : a.tmps.getD 68 undef = .slice ao1 ss1.length cap1 := g68
                    have h74 : a.tmps.getD 74 undef = .slice ao2 ss2.length cap2 := g74
                    clear g68 g74
                    have hln : ss1.length ≤ 9223372036854775807 := by
                      have e1 := congrArg List.length hb1
                      have e2 := listR_most r K M hKK
                      rw [show (bytesOf ss1).length = ss1.length by simp [bytesOf]] at e1
                      omega
                    have hdd : decide (bytesOf ss1 = bytesOf ss2) = true := by rw [hb1, hb2]; exact decide_eq_true rfl
                    have hr5 : ∀ w5, Below w4.heap.size w4 w5 → TwoL w ib rb wr.heap.size r (listR r K M).2 #[.int .i64 kd, .int .i64 K, .int .i64 M, .int .u64 (bvi N)] ((listR r K M).1.getD []) (L 5) (L 11) (slot a 68) (slot a 74) w5 ∧ (L 11 = true → L 5 = true) := fun w5 hb5 => by
                      rw [hx, hy]
                      obtain ⟨k1, k2, k3, k4⟩ := h2
                      refine ⟨⟨⟨k1.low hb5 k1.lt, k2.low hb5 k2.lt, k3.below hb5 k3.lt, k4.trans (hb5.mono k4.size)⟩, fun _ => ?_, fun _ => ?_⟩, fun _ => rfl⟩
                      · obtain ⟨ao, cap, ss, hv, hb, hs, hne⟩ := h3 rfl
                        exact ⟨ao, cap, ss, hv, hb, hs.keep (fun k off e h => hb5.block k h) hb5.size, hne⟩
                      · obtain ⟨ao, cap, ss, hv, hb, hs⟩ := h4 rfl
                        exact ⟨ao, cap, ss, hv, hb, hs.keep (fun k off e h => hb5.block k h) hb5.size⟩
                    clear h2 h3 h4 hb1 hb2
                    go_simp
                    refine (Same08_walk ao1 ao2 cap1 cap2 ss1 ss2 _ hs1 hs2 hln).mono ?_
                    rintro e w5 ⟨rfl, hb5⟩
                    exact hK _ _ (show Value.bool (decide (bytesOf ss1 = bytesOf ss2)) = .bool true by rw [hdd]) (by simpa [slot_ne] using hr5 w5 hb5)
                  · intro L a w4 Kx hl hsz hs ht hr he hK
                    refine step_plain rfl ?_
                    have h75 : a.tmps.getD 75 undef = .bool true := ht 12 (he 12 (by kernel_rfl)) 75 rfl
                    go_simp
                    exact hK _ _ rfl (by simpa [slot_ne] using hr)
                · intro f L w4 hf hall hr
                  have h76 : f 76 = .bool false := hf 13 (by decide) 76 rfl
                  simp only [List.foldl, Act.put, List.setIfInBounds_toArray, List.set_cons_zero, List.set_cons_succ]
                  rw [h76]
                  clear hf h76
                  have hr' : Two w ib rb wr.heap.size r (listR r K M).2 #[.int .i64 kd, .int .i64 K, .int .i64 M, .int .u64 (bvi N)] (L 5) (L 11) w4 := hr.1.1
                  rw [hall 5 (by decide), hall 11 (by decide)] at hr'
                  clear hr hall
                  generalize f 63 = y63
                  generalize f 64 = y64
                  generalize f 65 = y65
                  generalize f 66 = y66
                  generalize f 67 = y67
                  generalize f 68 = y68
                  generalize f 69 = y69
                  generalize f 70 = y70
                  generalize f 71 = y71
                  generalize f 72 = y72
                  generalize f 73 = y73
                  generalize f 74 = y74
                  generalize f 75 = y75
                  go_wp2_with fail
                  obtain ⟨hI4, hR4, _, hB4⟩ := hr'
                  have hI5 : InAt w4 ib (listR r K M).2 := hI4
                  have hR5 : RInAt w4 rb (listR r K M).2 := hR4
                  have hl5 : ((listR r K M).2).l.length ≤ 4096 := Nat.le_trans (listR_len r K M) hrl
                  generalize (listR r K M).2 = r2 at hI5 hR5 hl5
                  clear hI4 hR4
                  refine region_table (by kernel_rfl) [77, 78, 79, 80, 81, 82, 83, 84, 85, 86, 87, 88, 89, 90, 91, 92, 93, 94, 95]
                    (fun i x => match i with
                      | 0 => x = .pointer (some ⟨ib, 0, none⟩)
                      | 1 => x = .pointer (some ⟨ib, 0, none⟩)
                      | 2 => x = .pointer (some ⟨ib, 0, none⟩)
                      | 3 => x = .int .i64 (r2.l.length : Nat)
                      | 4 => x = .pointer (some ⟨rb, 0, none⟩)
                      | 5 => x = .pointer (some ⟨rb, 0, none⟩)
                      | 6 => x = .pointer (some ⟨rb, 0, none⟩)
                      | 7 => ∃ t, x = .string t ∧ Is t r2.l
                      | 8 => x = .int .i64 (r2.l.length : Nat)
                      | 9 => x = .bool false
                      | 10 => x = .bool false
                      | 11 => x = .pointer (some ⟨ib, 0, none⟩)
                      | 12 => x = .pointer (some ⟨ib, 0, none⟩)
                      | 13 => x = .pointer (some ⟨ib, 0, none⟩)
                      | 14 => x = .int .i64 (doneR r2)
                      | 15 => x = .pointer (some ⟨rb, 0, none⟩)
                      | 16 => x = .int .i64 (doneR r2)
                      | 17 => x = .bool false
                      | 18 => x = .bool false
                      | _ => True) (fun _ _ w' => InAt w' ib r2 ∧ RInAt w' rb r2 ∧ Below w.heap.size w w') (by kernel_rfl) (by kernel_rfl) rfl (by kernel_rfl) (by obtain ⟨s1, h1, k1⟩ := hI5; obtain ⟨s2, h2, k2⟩ := hR5; exact ⟨⟨s1, h1, k1.drew⟩, ⟨s2, h2, k2.drew⟩, hB4.drew⟩) ?_ ?_
                  · refine StepsOk.cons ?_ (StepsOk.cons ?_ (StepsOk.cons ?_ (StepsOk.cons ?_ (StepsOk.cons ?_ (StepsOk.cons ?_ (StepsOk.cons ?_ (StepsOk.cons ?_ (StepsOk.cons ?_ (StepsOk.cons ?_ (StepsOk.cons ?_ (StepsOk.cons ?_ (StepsOk.cons ?_ (StepsOk.cons ?_ (StepsOk.cons ?_ (StepsOk.cons ?_ (StepsOk.cons ?_ (StepsOk.cons ?_ (StepsOk.cons ?_ StepsOk.nil))))))))))))))))))
                    · intro L a w4 Kx hl hsz hs ht hr he hK
                      refine step_plain rfl ?_
                      have h5 : a.tmps.getD 5 undef = .pointer (some ⟨ib, 0, none⟩) := (hs 5 (by decide)).trans rfl
                      go_simp
                      exact hK _ _ rfl hr
                    · intro L a w4 Kx hl hsz hs ht hr he hK
                      refine step_plain rfl ?_
                      have h77 : a.tmps.getD 77 undef = .pointer (some ⟨ib, 0, none⟩) := ht 0 (he 0 (by kernel_rfl)) 77 rfl
                      go_simp
                      exact hK _ _ rfl hr
                    · intro L a w4 Kx hl hsz hs ht hr he hK
                      refine step_plain rfl ?_
                      have h78 : a.tmps.getD 78 undef = .pointer (some ⟨ib, 0, none⟩) := ht 1 (he 1 (by kernel_rfl)) 78 rfl
                      go_simp
                      exact hK _ _ rfl hr
                    · intro L a w4 Kx hl hsz hs ht hr he hK
                      refine step_plain rfl ?_
                      have h79 : a.tmps.getD 79 undef = .pointer (some ⟨ib, 0, none⟩) := ht 2 (he 2 (by kernel_rfl)) 79 rfl
                      go_simp
                      refine (Left_in ib r2 _ hr.1).mono ?_
                      rintro e w5 ⟨rfl, rfl⟩
                      exact hK _ _ rfl hr
                    · intro L a w4 Kx hl hsz hs ht hr he hK
                      refine step_plain rfl ?_
                      have h6 : a.tmps.getD 6 undef = .pointer (some ⟨rb, 0, none⟩) := (hs 6 (by decide)).trans rfl
                      go_simp
                      exact hK _ _ rfl hr
                    · intro L a w4 Kx hl hsz hs ht hr he hK
                      refine step_plain rfl ?_
                      have h81 : a.tmps.getD 81 undef = .pointer (some ⟨rb, 0, none⟩) := ht 4 (he 4 (by kernel_rfl)) 81 rfl
                      go_simp
                      exact hK _ _ rfl hr
                    · intro L a w4 Kx hl hsz hs ht hr he hK
                      refine step_plain rfl ?_
                      have h82 : a.tmps.getD 82 undef = .pointer (some ⟨rb, 0, none⟩) := ht 5 (he 5 (by kernel_rfl)) 82 rfl
                      go_simp
                      exact hK _ _ rfl hr
                    · intro L a w4 Kx hl hsz hs ht hr he hK
                      refine step_plain rfl ?_
                      have h83 : a.tmps.getD 83 undef = .pointer (some ⟨rb, 0, none⟩) := ht 6 (he 6 (by kernel_rfl)) 83 rfl
                      obtain ⟨s6, i6, _, c6, _⟩ := hr.2.1.cells
                      go_simp
                      exact hK _ _ ⟨s6, rfl, i6⟩ hr
                    · intro L a w4 Kx hl hsz hs ht hr he hK
                      refine step_plain rfl ?_
                      obtain ⟨t7, g7, i7⟩ : ∃ t, a.tmps.getD 84 undef = .string t ∧ Is t r2.l := ht 7 (he 7 (by kernel_rfl)) 84 rfl
                      have z7 : (t7.size : Int) = (r2.l.length : Nat) := by rw [i7.size]
                      clear i7
                      go_simp
                      exact hK _ _ (by first | rfl | rw [z7]) hr
                    · intro L a w4 Kx hl hsz hs ht hr he hK
                      refine step_plain rfl ?_
                      have h80 : a.tmps.getD 80 undef = .int .i64 (r2.l.length : Nat) := ht 3 (he 3 (by kernel_rfl)) 80 rfl
                      have h85 : a.tmps.getD 85 undef = .int .i64 (r2.l.length : Nat) := ht 8 (he 8 (by kernel_rfl)) 85 rfl
                      go_simp
                      exact hK _ _ rfl hr
                    · intro L a w4 Kx hl hsz hs ht hr he hK
                      refine step_plain rfl ?_
                      have h86 : a.tmps.getD 86 undef = .bool false := ht 9 (he 9 (by kernel_rfl)) 86 rfl
                      go_simp
                      exact hK _ _ rfl hr
                    · intro L a w4 Kx hl hsz hs ht hr he hK
                      have h87 : a.tmps.getD 87 undef = .bool (false) := ht 10 (he 10 (by kernel_rfl)) 87 rfl
                      refine step_guard 10 false (false) 87 rfl rfl (by rw [hsz]; exact of_decide_eq_true (by kernel_rfl)) h87 ?_
                      rw [if_pos rfl]
                      have h5 : a.tmps.getD 5 undef = .pointer (some ⟨ib, 0, none⟩) := (hs 5 (by decide)).trans rfl
                      go_simp
                      exact hK _ _ rfl hr
                    · intro L a w4 Kx hl hsz hs ht hr he hK
                      have h87 : a.tmps.getD 87 undef = .bool (false) := ht 10 (he 10 (by kernel_rfl)) 87 rfl
                      refine step_guard 10 false (false) 87 rfl rfl (by rw [hsz]; exact of_decide_eq_true (by kernel_rfl)) h87 ?_
                      rw [if_pos rfl]
                      have h88 : a.tmps.getD 88 undef = .pointer (some ⟨ib, 0, none⟩) := ht 11 (he 11 (by kernel_rfl)) 88 rfl
                      go_simp
                      exact hK _ _ rfl hr
                    · intro L a w4 Kx hl hsz hs ht hr he hK
                      have h87 : a.tmps.getD 87 undef = .bool (false) := ht 10 (he 10 (by kernel_rfl)) 87 rfl
                      refine step_guard 10 false (false) 87 rfl rfl (by rw [hsz]; exact of_decide_eq_true (by kernel_rfl)) h87 ?_
                      rw [if_pos rfl]
                      have h89 : a.tmps.getD 89 undef = .pointer (some ⟨ib, 0, none⟩) := ht 12 (he 12 (by kernel_rfl)) 89 rfl
                      go_simp
                      exact hK _ _ rfl hr
                    · intro L a w4 Kx hl hsz hs ht hr he hK
                      have h87 : a.tmps.getD 87 undef = .bool (false) := ht 10 (he 10 (by kernel_rfl)) 87 rfl
                      refine step_guard 10 false (false) 87 rfl rfl (by rw [hsz]; exact of_decide_eq_true (by kernel_rfl)) h87 ?_
                      rw [if_pos rfl]
                      have h90 : a.tmps.getD 90 undef = .pointer (some ⟨ib, 0, none⟩) := ht 13 (he 13 (by kernel_rfl)) 90 rfl
                      go_simp
                      refine (Done_walk ib r2 _ hr.1).mono ?_
                      rintro e w5 ⟨rfl, rfl⟩
                      exact hK _ _ rfl hr
                    · intro L a w4 Kx hl hsz hs ht hr he hK
                      have h87 : a.tmps.getD 87 undef = .bool (false) := ht 10 (he 10 (by kernel_rfl)) 87 rfl
                      refine step_guard 10 false (false) 87 rfl rfl (by rw [hsz]; exact of_decide_eq_true (by kernel_rfl)) h87 ?_
                      rw [if_pos rfl]
                      have h6 : a.tmps.getD 6 undef = .pointer (some ⟨rb, 0, none⟩) := (hs 6 (by decide)).trans rfl
                      go_simp
                      exact hK _ _ rfl hr
                    · intro L a w4 Kx hl hsz hs ht hr he hK
                      have h87 : a.tmps.getD 87 undef = .bool (false) := ht 10 (he 10 (by kernel_rfl)) 87 rfl
                      refine step_guard 10 false (false) 87 rfl rfl (by rw [hsz]; exact of_decide_eq_true (by kernel_rfl)) h87 ?_
                      rw [if_pos rfl]
                      have h92 : a.tmps.getD 92 undef = .pointer (some ⟨rb, 0, none⟩) := ht 15 (he 15 (by kernel_rfl)) 92 rfl
                      go_simp
                      refine (RDone_walk rb r2 _ hr.2.1).mono ?_
                      rintro e w5 ⟨rfl, rfl⟩
                      exact hK _ _ rfl hr
                    · intro L a w4 Kx hl hsz hs ht hr he hK
                      have h87 : a.tmps.getD 87 undef = .bool (false) := ht 10 (he 10 (by kernel_rfl)) 87 rfl
                      refine step_guard 10 false (false) 87 rfl rfl (by rw [hsz]; exact of_decide_eq_true (by kernel_rfl)) h87 ?_
                      rw [if_pos rfl]
                      have h91 : a.tmps.getD 91 undef = .int .i64 (doneR r2) := ht 14 (he 14 (by kernel_rfl)) 91 rfl
                      have h93 : a.tmps.getD 93 undef = .int .i64 (doneR r2) := ht 16 (he 16 (by kernel_rfl)) 93 rfl
                      go_simp
                      exact hK _ _ rfl hr
                    · intro L a w4 Kx hl hsz hs ht hr he hK
                      refine step_plain rfl ?_
                      have h87 : a.tmps.getD 87 undef = .bool false := ht 10 (he 10 (by kernel_rfl)) 87 rfl
                      have h94 : a.tmps.getD 94 undef = .bool false := ht 17 (he 17 (by kernel_rfl)) 94 rfl
                      go_simp
                      exact hK _ _ rfl hr
                  · intro f L w4 hf hall hr
                    have h95 : f 95 = .bool false := hf 18 (by decide) 95 rfl
                    simp only [List.foldl, Act.put, List.setIfInBounds_toArray, List.set_cons_zero, List.set_cons_succ]
                    rw [h95]
                    clear hf h95
                    obtain ⟨hI6, hR6, hB6⟩ := hr
                    have HI6 := Lib.hid hI6
                    have HR6 := Lib.hid hR6
                    have HB6 := Lib.hid hB6
                    clear hI6 hR6 hB6 hI5 hR5 hB4
                    go_wp2_with fail
                    go_roundw
                    case rel => exact ⟨k + 1, r2, by omega, by go_num, hl5, HI6.out, HR6.out, HB6.out⟩
                    case measure => simp [intOf]; omega
              · have k2b : (kd == 2) = false := by rw [beq_eq_false_iff_ne]; exact k2
                clear k2
                go_wp2_with fail
                obtain ⟨r2, hr2⟩ : ∃ r2 : Rd, r2 = r := ⟨_, rfl⟩
                subst hr2
                obtain ⟨hI4, hR4, _, hB4⟩ := HT.out r2
                have hI5 : InAt (wr.alloc (.cells #[.int .i64 kd, .int .i64 K, .int .i64 M, .int .u64 (bvi N)] 56)) ib r2 := hI4
                have hR5 : RInAt (wr.alloc (.cells #[.int .i64 kd, .int .i64 K, .int .i64 M, .int .u64 (bvi N)] 56)) rb r2 := hR4
                have hl5 := hrl
                clear hI4 hR4
                refine region_table (by kernel_rfl) [77, 78, 79, 80, 81, 82, 83, 84, 85, 86, 87, 88, 89, 90, 91, 92, 93, 94, 95]
                  (fun i x => match i with
                    | 0 => x = .pointer (some ⟨ib, 0, none⟩)
                    | 1 => x = .pointer (some ⟨ib, 0, none⟩)
                    | 2 => x = .pointer (some ⟨ib, 0, none⟩)
                    | 3 => x = .int .i64 (r2.l.length : Nat)
                    | 4 => x = .pointer (some ⟨rb, 0, none⟩)
                    | 5 => x = .pointer (some ⟨rb, 0, none⟩)
                    | 6 => x = .pointer (some ⟨rb, 0, none⟩)
                    | 7 => ∃ t, x = .string t ∧ Is t r2.l
                    | 8 => x = .int .i64 (r2.l.length : Nat)
                    | 9 => x = .bool false
                    | 10 => x = .bool false
                    | 11 => x = .pointer (some ⟨ib, 0, none⟩)
                    | 12 => x = .pointer (some ⟨ib, 0, none⟩)
                    | 13 => x = .pointer (some ⟨ib, 0, none⟩)
                    | 14 => x = .int .i64 (doneR r2)
                    | 15 => x = .pointer (some ⟨rb, 0, none⟩)
                    | 16 => x = .int .i64 (doneR r2)
                    | 17 => x = .bool false
                    | 18 => x = .bool false
                    | _ => True) (fun _ _ w' => InAt w' ib r2 ∧ RInAt w' rb r2 ∧ Below w.heap.size w w') (by kernel_rfl) (by kernel_rfl) rfl (by kernel_rfl) (by obtain ⟨s1, h1, k1⟩ := hI5; obtain ⟨s2, h2, k2⟩ := hR5; exact ⟨⟨s1, h1, k1.drew⟩, ⟨s2, h2, k2.drew⟩, hB4.drew⟩) ?_ ?_
                · refine StepsOk.cons ?_ (StepsOk.cons ?_ (StepsOk.cons ?_ (StepsOk.cons ?_ (StepsOk.cons ?_ (StepsOk.cons ?_ (StepsOk.cons ?_ (StepsOk.cons ?_ (StepsOk.cons ?_ (StepsOk.cons ?_ (StepsOk.cons ?_ (StepsOk.cons ?_ (StepsOk.cons ?_ (StepsOk.cons ?_ (StepsOk.cons ?_ (StepsOk.cons ?_ (StepsOk.cons ?_ (StepsOk.cons ?_ (StepsOk.cons ?_ StepsOk.nil))))))))))))))))))
                  · intro L a w4 Kx hl hsz hs ht hr he hK
                    refine step_plain rfl ?_
                    have h5 : a.tmps.getD 5 undef = .pointer (some ⟨ib, 0, none⟩) := (hs 5 (by decide)).trans rfl
                    go_simp
                    exact hK _ _ rfl hr
                  · intro L a w4 Kx hl hsz hs ht hr he hK
                    refine step_plain rfl ?_
                    have h77 : a.tmps.getD 77 undef = .pointer (some ⟨ib, 0, none⟩) := ht 0 (he 0 (by kernel_rfl)) 77 rfl
                    go_simp
                    exact hK _ _ rfl hr
                  · intro L a w4 Kx hl hsz hs ht hr he hK
                    refine step_plain rfl ?_
                    have h78 : a.tmps.getD 78 undef = .pointer (some ⟨ib, 0, none⟩) := ht 1 (he 1 (by kernel_rfl)) 78 rfl
                    go_simp
                    exact hK _ _ rfl hr
                  · intro L a w4 Kx hl hsz hs ht hr he hK
                    refine step_plain rfl ?_
                    have h79 : a.tmps.getD 79 undef = .pointer (some ⟨ib, 0, none⟩) := ht 2 (he 2 (by kernel_rfl)) 79 rfl
                    go_simp
                    refine (Left_in ib r2 _ hr.1).mono ?_
                    rintro e w5 ⟨rfl, rfl⟩
                    exact hK _ _ rfl hr
                  · intro L a w4 Kx hl hsz hs ht hr he hK
                    refine step_plain rfl ?_
                    have h6 : a.tmps.getD 6 undef = .pointer (some ⟨rb, 0, none⟩) := (hs 6 (by decide)).trans rfl
                    go_simp
                    exact hK _ _ rfl hr
                  · intro L a w4 Kx hl hsz hs ht hr he hK
                    refine step_plain rfl ?_
                    have h81 : a.tmps.getD 81 undef = .pointer (some ⟨rb, 0, none⟩) := ht 4 (he 4 (by kernel_rfl)) 81 rfl
                    go_simp
                    exact hK _ _ rfl hr
                  · intro L a w4 Kx hl hsz hs ht hr he hK
                    refine step_plain rfl ?_
                    have h82 : a.tmps.getD 82 undef = .pointer (some ⟨rb, 0, none⟩) := ht 5 (he 5 (by kernel_rfl)) 82 rfl
                    go_simp
                    exact hK _ _ rfl hr
                  · intro L a w4 Kx hl hsz hs ht hr he hK
                    refine step_plain rfl ?_
                    have h83 : a.tmps.getD 83 undef = .pointer (some ⟨rb, 0, none⟩) := ht 6 (he 6 (by kernel_rfl)) 83 rfl
                    obtain ⟨s6, i6, _, c6, _⟩ := hr.2.1.cells
                    go_simp
                    exact hK _ _ ⟨s6, rfl, i6⟩ hr
                  · intro L a w4 Kx hl hsz hs ht hr he hK
                    refine step_plain rfl ?_
                    obtain ⟨t7, g7, i7⟩ : ∃ t, a.tmps.getD 84 undef = .string t ∧ Is t r2.l := ht 7 (he 7 (by kernel_rfl)) 84 rfl
                    have z7 : (t7.size : Int) = (r2.l.length : Nat) := by rw [i7.size]
                    clear i7
                    go_simp
                    exact hK _ _ (by first | rfl | rw [z7]) hr
                  · intro L a w4 Kx hl hsz hs ht hr he hK
                    refine step_plain rfl ?_
                    have h80 : a.tmps.getD 80 undef = .int .i64 (r2.l.length : Nat) := ht 3 (he 3 (by kernel_rfl)) 80 rfl
                    have h85 : a.tmps.getD 85 undef = .int .i64 (r2.l.length : Nat) := ht 8 (he 8 (by kernel_rfl)) 85 rfl
                    go_simp
                    exact hK _ _ rfl hr
                  · intro L a w4 Kx hl hsz hs ht hr he hK
                    refine step_plain rfl ?_
                    have h86 : a.tmps.getD 86 undef = .bool false := ht 9 (he 9 (by kernel_rfl)) 86 rfl
                    go_simp
                    exact hK _ _ rfl hr
                  · intro L a w4 Kx hl hsz hs ht hr he hK
                    have h87 : a.tmps.getD 87 undef = .bool (false) := ht 10 (he 10 (by kernel_rfl)) 87 rfl
                    refine step_guard 10 false (false) 87 rfl rfl (by rw [hsz]; exact of_decide_eq_true (by kernel_rfl)) h87 ?_
                    rw [if_pos rfl]
                    have h5 : a.tmps.getD 5 undef = .pointer (some ⟨ib, 0, none⟩) := (hs 5 (by decide)).trans rfl
                    go_simp
                    exact hK _ _ rfl hr
                  · intro L a w4 Kx hl hsz hs ht hr he hK
                    have h87 : a.tmps.getD 87 undef = .bool (false) := ht 10 (he 10 (by kernel_rfl)) 87 rfl
                    refine step_guard 10 false (false) 87 rfl rfl (by rw [hsz]; exact of_decide_eq_true (by kernel_rfl)) h87 ?_
                    rw [if_pos rfl]
                    have h88 : a.tmps.getD 88 undef = .pointer (some ⟨ib, 0, none⟩) := ht 11 (he 11 (by kernel_rfl)) 88 rfl
                    go_simp
                    exact hK _ _ rfl hr
                  · intro L a w4 Kx hl hsz hs ht hr he hK
                    have h87 : a.tmps.getD 87 undef = .bool (false) := ht 10 (he 10 (by kernel_rfl)) 87 rfl
                    refine step_guard 10 false (false) 87 rfl rfl (by rw [hsz]; exact of_decide_eq_true (by kernel_rfl)) h87 ?_
                    rw [if_pos rfl]
                    have h89 : a.tmps.getD 89 undef = .pointer (some ⟨ib, 0, none⟩) := ht 12 (he 12 (by kernel_rfl)) 89 rfl
                    go_simp
                    exact hK _ _ rfl hr
                  · intro L a w4 Kx hl hsz hs ht hr he hK
                    have h87 : a.tmps.getD 87 undef = .bool (false) := ht 10 (he 10 (by kernel_rfl)) 87 rfl
                    refine step_guard 10 false (false) 87 rfl rfl (by rw [hsz]; exact of_decide_eq_true (by kernel_rfl)) h87 ?_
                    rw [if_pos rfl]
                    have h90 : a.tmps.getD 90 undef = .pointer (some ⟨ib, 0, none⟩) := ht 13 (he 13 (by kernel_rfl)) 90 rfl
                    go_simp
                    refine (Done_walk ib r2 _ hr.1).mono ?_
                    rintro e w5 ⟨rfl, rfl⟩
                    exact hK _ _ rfl hr
                  · intro L a w4 Kx hl hsz hs ht hr he hK
                    have h87 : a.tmps.getD 87 undef = .bool (false) := ht 10 (he 10 (by kernel_rfl)) 87 rfl
                    refine step_guard 10 false (false) 87 rfl rfl (by rw [hsz]; exact of_decide_eq_true (by kernel_rfl)) h87 ?_
                    rw [if_pos rfl]
                    have h6 : a.tmps.getD 6 undef = .pointer (some ⟨rb, 0, none⟩) := (hs 6 (by decide)).trans rfl
                    go_simp
                    exact hK _ _ rfl hr
                  · intro L a w4 Kx hl hsz hs ht hr he hK
                    have h87 : a.tmps.getD 87 undef = .bool (false) := ht 10 (he 10 (by kernel_rfl)) 87 rfl
                    refine step_guard 10 false (false) 87 rfl rfl (by rw [hsz]; exact of_decide_eq_true (by kernel_rfl)) h87 ?_
                    rw [if_pos rfl]
                    have h92 : a.tmps.getD 92 undef = .pointer (some ⟨rb, 0, none⟩) := ht 15 (he 15 (by kernel_rfl)) 92 rfl
                    go_simp
                    refine (RDone_walk rb r2 _ hr.2.1).mono ?_
                    rintro e w5 ⟨rfl, rfl⟩
                    exact hK _ _ rfl hr
                  · intro L a w4 Kx hl hsz hs ht hr he hK
                    have h87 : a.tmps.getD 87 undef = .bool (false) := ht 10 (he 10 (by kernel_rfl)) 87 rfl
                    refine step_guard 10 false (false) 87 rfl rfl (by rw [hsz]; exact of_decide_eq_true (by kernel_rfl)) h87 ?_
                    rw [if_pos rfl]
                    have h91 : a.tmps.getD 91 undef = .int .i64 (doneR r2) := ht 14 (he 14 (by kernel_rfl)) 91 rfl
                    have h93 : a.tmps.getD 93 undef = .int .i64 (doneR r2) := ht 16 (he 16 (by kernel_rfl)) 93 rfl
                    go_simp
                    exact hK _ _ rfl hr
                  · intro L a w4 Kx hl hsz hs ht hr he hK
                    refine step_plain rfl ?_
                    have h87 : a.tmps.getD 87 undef = .bool false := ht 10 (he 10 (by kernel_rfl)) 87 rfl
                    have h94 : a.tmps.getD 94 undef = .bool false := ht 17 (he 17 (by kernel_rfl)) 94 rfl
                    go_simp
                    exact hK _ _ rfl hr
                · intro f L w4 hf hall hr
                  have h95 : f 95 = .bool false := hf 18 (by decide) 95 rfl
                  simp only [List.foldl, Act.put, List.setIfInBounds_toArray, List.set_cons_zero, List.set_cons_succ]
                  rw [h95]
                  clear hf h95
                  obtain ⟨hI6, hR6, hB6⟩ := hr
                  have HI6 := Lib.hid hI6
                  have HR6 := Lib.hid hR6
                  have HB6 := Lib.hid hB6
                  clear hI6 hR6 hB6 hI5 hR5 hB4
                  go_wp2_with fail
                  go_roundw
                  case rel => exact ⟨k + 1, r2, by omega, by go_num, hl5, HI6.out, HR6.out, HB6.out⟩
                  case measure => simp [intOf]; omega
        · have hd1 : decide ((k : Int) < (aks.length : Int)) = true := decide_eq_true (by omega)
          have hd2 : decide ((k : Int) < 100) = false := decide_eq_false (by omega)
          go_wp2_with fail
          go_ret
          exact ⟨rfl, HB.out⟩
      · have hd1 : decide ((k : Int) < (aks.length : Int)) = false := decide_eq_false (by omega)
        go_wp2_with fail
        go_ret
        exact ⟨rfl, HB.out⟩
end Go.Proofs.Ytfdncifnokkclaa
