/-
The frame of every law's proof: from a walk ('it returns true, and nothing that was there has turned') to what the row asks.
The frame's openers: slices of strings, of numbers, arrays of words.
-/
import Derived.Test.YtfglhemmccihfaaRows
import Derived.ProofKit
import Derived.OpenShut
import Derived.ShutString
import Derived.SizedLaws
import Derived.Deep.Slices
import Derived.SliceStrings
import Derived.Test.YtfglhemmccihfaaMa
import Derived.Test.YtfglhemmccihfaaMb
namespace Go.Proofs.Ytfglhemmccihfaa
open Go.ChangeShapes Go.WideShapes Go.ChangeAt Go.RowKit
open Go.ChangeMaps (open_string shut_string)

theorem Try.ownKnob : ownKnob Try.prog.godebug = none := by kernel_rfl
theorem Try.laidOut : laidOutB Try.prog = true := by kernel_rfl

theorem trodAll_below {H : Type} {enc : TypeId × Value → H} {P : Program} (hl : laidOutB P = true) {W W' : World} (hb : Below W.heap.size W W') :
    ∀ (ts : List TypeId) (vs : List Value) (ds : List (DataW H)) (ps : List MemPlace), (∀ t ∈ ts, P.readableRec t = true ∧ t < P.types.size) → (∀ x ∈ ps, x.block < W.heap.size) →
      DataW.TrodAll enc P W 0 (fun _ => true) true ts vs ds ps → DataW.TrodAll enc P W' 0 (fun b => decide (b < W.heap.size)) true ts vs ds ps := by
  intro ts
  induction ts with
  | nil =>
    intro vs ds ps _ _ h
    obtain ⟨rfl, rfl, rfl⟩ := trodAll_nil h
    exact rfl
  | cons t ts ih =>
    intro vs ds ps hr hlt h
    obtain ⟨v, vs', d, ds', p, q, rfl, rfl, rfl, h1, h2⟩ := trodAll_cons h
    refine ⟨p, q, ?_, ih vs' ds' q (fun t ht => hr t (by simp [ht])) (fun x hx => hlt x (by simp [hx])) h2, rfl⟩
    exact Below.trod hl (hr t (by simp)).1 (hr t (by simp)).2 h1 hb (fun x hx => hlt x (by simp [hx]))

theorem trodAll_length {H : Type} {enc : TypeId × Value → H} {P : Program} {W : World} {base : Nat} {sp : Nat → Bool} {hd : Bool} :
    ∀ (ts : List TypeId) (vs : List Value) (ds : List (DataW H)) (ps : List MemPlace), DataW.TrodAll enc P W base sp hd ts vs ds ps → ds.length = ts.length := by
  intro ts
  induction ts with
  | nil => intro vs ds ps h; obtain ⟨_, rfl, _⟩ := trodAll_nil h; rfl
  | cons t ts ih => intro vs ds ps h; obtain ⟨v, vs', d, ds', p, q, rfl, rfl, rfl, h1, h2⟩ := trodAll_cons h; simp [ih _ _ _ h2]

/-- What the row asks behind the call, of a law that returned true. -/
theorem law_post {H : Type} {enc : TypeId × Value → H} {fn : Func} {s : ChangeSpec} {W W' : World} {args : Array Value} {ds gs : List (DataW H)} {before : List MemPlace}
    (hvars : s.vars = []) (hread : fn.params.toList.all (fun t => Try.prog.readableRec t && decide (t < Try.prog.types.size)) = true)
    (hrt : fn.resultTypes.toList = [4])
    (hspec : DataW.TrodAll enc Try.prog W 0 (fun _ => true) true fn.params.toList args.toList ds before → s.fn H ds = { results := [.lit (.bool true)], args := ds })
    (hW : DataW.Whole enc Try.prog fn.params.toList s.vars false W args.toList ds gs before) (hb : Below W.heap.size W W') :
    s.post enc Try.prog fn false true false false W args (.bool true) W' := by
  have hW' := hW
  have hlt : ∀ x ∈ before, x.block < W.heap.size := fun x hx => by simpa using hW.lt x hx
  obtain ⟨p, q, hA, hV, rfl, _, _⟩ := hW
  rw [hvars] at hV
  obtain ⟨rfl, rfl⟩ := trodVars_none hV
  simp only [List.append_nil] at hW' hlt hspec
  have hs := hspec hA
  refine ⟨ds, [], p, [], p, [], hW', ?_, ?_, ?_, hb.frame _, fun h => by cases h⟩
  · rw [List.append_nil, hs]
    have hsz : fn.resultTypes.size = 1 := by rw [← Array.length_toList, hrt]; rfl
    rw [hrt, hsz]
    exact trodAll_cons_mk (shut_bool Try.underlying4 _) trodAll_mk0
  · rw [List.append_nil, hs]
    exact trodAll_below Try.laidOut hb _ _ _ _ (fun t ht => by
      have := List.all_eq_true.1 hread t ht
      simpa using this) hlt hA
  · rw [List.append_nil, hs, hvars]
    rfl

set_option maxRecDepth 100000 in
/-- From the walk to the row's step. 'walk' gets the arguments as they were read, and the form's own reach. -/
theorem law_lifted (K : FuncId) (fn : Func) (s : ChangeSpec) (hvars : s.vars = []) (hfn : Try.prog.funcs[K]? = some fn) (noInit : Try.prog.inits.idxOf? K = none)
    (hread : fn.params.toList.all (fun t => Try.prog.readableRec t && decide (t < Try.prog.types.size)) = true) (hrt : fn.resultTypes.toList = [4])
    (hspec : ∀ (H : Type) (ds : List (DataW H)), ds.length = fn.params.toList.length → s.fn H ds = { results := [.lit (.bool true)], args := ds })
    (os : Os) (started : os.Started) (H : Type) (enc : TypeId × Value → H)
    (witness : ∃ (w : World) (tape : Tape) (i : Input), w.os = os ∧ (w.forCall tape i).Shaped Try.checked.prog ∧ i.vars = [] ∧ Input.okWide Try.checked.prog (w.forCall tape i) .any w.heap.size K i ∧
      s.pre6 enc Try.checked.prog fn [] false (w.forCall tape i).memory i.args ∧ ({} : Assume).holds Try.checked.prog (lone (Frame.enter Try.checked.prog K i.args .normal) [] (w.forCall tape i)))
    (walk : ∀ (W : World) (base : Nat) (args : Array Value) (ds : List (DataW H)) (before : List MemPlace),
      (∀ (j : Nat) t v, fn.params[j]? = some t → args[j]? = some v → Value.okWide Try.prog W .any base t v) →
      DataW.TrodAll enc Try.prog W 0 (fun _ => true) true fn.params.toList args.toList ds before → (∀ x ∈ before, x.block < W.heap.size) →
      (DataW.weightsEach Try.prog fn.params.toList ds).all (· ≤ reachBytes) = true →
      Calls Try.prog K args W fun e W' => e = .returned (.bool true) ∧ Below W.heap.size W W') :
    ReturnsInHanded {} Try.checked os K .any (s.pre6 enc Try.prog fn [] false) (s.post enc Try.prog fn false true false false) := by
  refine returnsInHanded_of_change_sized (C := Try.checked) Try.ownKnob started noInit hfn witness ?_
  intro W base args ds gs before hval hW _ hsz _
  have hW2 : DataW.Whole enc Try.prog fn.params.toList s.vars false W args.toList ds gs before := hW
  have hlt : ∀ x ∈ before, x.block < W.heap.size := fun x hx => by simpa using hW2.lt x hx
  obtain ⟨p, q, hA, hV, hpq, hfz, hnd⟩ := id hW2
  rw [hvars] at hV
  obtain ⟨rfl, rfl⟩ := trodVars_none hV
  rw [List.append_nil] at hpq
  subst hpq
  have hlen : ds.length = fn.params.toList.length := trodAll_length _ _ _ _ hA
  refine (walk W base args ds before hval hA hlt ?_).mono fun e W' ⟨he, hb⟩ => ?_
  · have h2 : (DataW.weightsEach Try.prog (fn.params.toList ++ s.plain.varTypes Try.prog) (ds ++ [])).all (· ≤ reachBytes) = true := hsz
    have h3 : s.plain.varTypes Try.prog = [] := by
      unfold DataSpec.varTypes ChangeSpec.plain
      rw [hvars]; rfl
    rw [h3, List.append_nil, List.append_nil] at h2
    exact h2
  · subst he
    exact ⟨_, rfl, law_post hvars hread hrt (fun _ => hspec H ds hlen) hW2 hb⟩

theorem wf_unsigned {k : IntKind} (hk : k.signed = false) {a : Int} (h : (Lit.int k a).wf = true) : ∃ x : BitVec k.bits, a = bvi x := by
  have h2 : k.min ≤ a ∧ a ≤ k.max := by simpa [Lit.wf] using h
  refine ⟨BitVec.ofInt k.bits a, (bvi_ofInt _ _ ?_ ?_).symm⟩
  · have h3 : k.min = 0 := by cases k <;> simp_all [IntKind.min, IntKind.signed]
    omega
  · have h3 : k.max = ((2 ^ k.bits : Nat) : Int) - 1 := by cases k <;> simp_all [IntKind.max, IntKind.signed, IntKind.bits]
    omega
theorem wf_u8 {a : Int} (h : (Lit.int .u8 a).wf = true) : ∃ x : BitVec 8, a = bvi x := wf_unsigned (k := .u8) rfl h
theorem wf_u16 {a : Int} (h : (Lit.int .u16 a).wf = true) : ∃ x : BitVec 16, a = bvi x := wf_unsigned (k := .u16) rfl h
theorem wf_u32 {a : Int} (h : (Lit.int .u32 a).wf = true) : ∃ x : BitVec 32, a = bvi x := wf_unsigned (k := .u32) rfl h
theorem wf_u64 {a : Int} (h : (Lit.int .u64 a).wf = true) : ∃ x : BitVec 64, a = bvi x := wf_unsigned (k := .u64) rfl h
theorem wf_i64 {a : Int} (h : (Lit.int .i64 a).wf = true) : -9223372036854775808 ≤ a ∧ a ≤ 9223372036854775807 := by
  have h2 : IntKind.i64.min ≤ a ∧ a ≤ IntKind.i64.max := by simpa [Lit.wf] using h
  simpa [IntKind.min, IntKind.max, IntKind.bits, IntKind.signed] using h2
theorem str_size {H : Type} {ts : List TypeId} {ds : List (DataW H)} (h : (DataW.weightsEach Try.prog ts ds).all (· ≤ reachBytes) = true) {j : Nat} {t : TypeId} {s : ByteArray}
    (ht : ts[j]? = some t) (hd : ds[j]? = some (.lit (.string s.data.toList))) : s.size ≤ 140737488351232 := by
  have := sized_string h ht hd
  rw [Array.length_toList] at this
  exact this
end Go.Proofs.Ytfglhemmccihfaa
namespace Go.Proofs.Ytfglhemmccihfaa
open Go.ChangeShapes Go.WideShapes Go.ChangeAt Go.RowKit

theorem addr_plain {w : World} {a : Addr} {v : Value} (h : w.cell? a = some v) : ∃ b off, a = ⟨b, off, none⟩ ∧ b < w.heap.size := by
  obtain ⟨b, off, spot⟩ := a
  have hspot : spot = none := World.cell?_spot h
  subst hspot
  exact ⟨b, off, rfl, cell_lt h⟩
theorem all_sizes {H : Type} {P : Program} {e : TypeId} (l : List ByteArray) (d : List (DataW H)) (hd : d = l.map fun s => .lit (.string s.data.toList)) (h : ∀ n ∈ DataW.weightsAll P e d, n ≤ reachBytes) : ∀ s ∈ l, s.size ≤ 140737488351232 := by
  subst hd
  induction l with
  | nil => intro s hs; cases hs
  | cons x l ih =>
    intro s hs
    simp only [List.map_cons, DataW.weightsAll, DataW.weights, List.mem_append, List.mem_singleton] at h
    rcases List.mem_cons.1 hs with rfl | hs
    · have := h _ (Or.inl rfl)
      rw [Array.length_toList] at this
      exact this
    · exact ih (fun n hn => h n (Or.inr hn)) s hs

set_option maxRecDepth 100000 in
/-- A slice of strings that came in. -/
theorem open_strs {H : Type} {enc : TypeId × Value → H} {W : World} {base : Nat} {sp : Nat → Bool} {held : Bool} {v : Value} {d : DataW H} {p : List MemPlace} {r : Reach} {b0 : Nat}
    (hv : Value.okWide Try.prog W r b0 60 v) (h : DataW.Trod enc Try.prog W base sp held 60 v d p)
    {ts : List TypeId} {ds : List (DataW H)} (hsz : (DataW.weightsEach Try.prog ts ds).all (· ≤ reachBytes) = true) {j : Nat} (ht : ts[j]? = some 60) (hd : ds[j]? = some d) :
    ∃ (ao : Option Addr) (cap : Nat) (ss : List ByteArray), v = .slice ao ss.length cap ∧ StrsAt W ao ss ∧ (∀ s ∈ ss, s.size ≤ 140737488351232) ∧ ss.length * 16 ≤ 140737488351232 ∧ (ao = none → cap = 0) := by
  obtain ⟨ao, n, cap, rfl⟩ := okWide_slice Try.underlying60 hv
  obtain ⟨fuel, hf⟩ := h
  rcases open_strings Try.underlying60 Try.underlying9 (by kernel_rfl) hf with ⟨hcs, hx⟩ | ⟨a, len, cap', ss, hcs, _, hl, hm, hz, hx, hcell, hws⟩
  · simp [Value.cells] at hcs
    obtain ⟨rfl, rfl, rfl⟩ := hcs
    exact ⟨none, 0, [], rfl, fun i hi => absurd hi (by simp), fun s hs => absurd hs (by simp), by simp, fun _ => rfl⟩
  · simp [Value.cells] at hcs
    obtain ⟨rfl, rfl, rfl⟩ := hcs
    injection hx with hx1 hx2
    subst hx1
    have hl2 : n ≤ ss.length := by rw [hz]; split <;> omega
    have hw := DataW.weights_mem_each (P := Try.prog) ht hd
    have hall := fun m hm => of_decide_eq_true (List.all_eq_true.1 hsz m (hw m hm))
    have hwt : (DataW.slice (strs (ss.take n)) (strs (ss.drop n)) : DataW H).weights Try.prog 60 = ((strs (ss.take n) : List (DataW H)).length + (strs (ss.drop n) : List (DataW H)).length) * Try.prog.bytesOf 9 :: (DataW.weightsAll Try.prog 9 (strs (ss.take n) : List (DataW H)) ++ DataW.weightsAll Try.prog 9 (strs (ss.drop n) : List (DataW H))) := by
      simp only [DataW.weights, Try.underlying60]
    rw [hwt] at hall
    refine ⟨some a, cap, ss.take n, by rw [List.length_take, Nat.min_eq_left hl2], ?_, ?_, ?_, fun h => by cases h⟩
    · intro i hi
      have hi2 : i < n := by rw [List.length_take, Nat.min_eq_left hl2] at hi; exact hi
      obtain ⟨b, off, rfl, hb⟩ := addr_plain (by have := hcell 0 (by omega); simpa [Addr.add] using this : W.cell? a = _)
      refine ⟨b, off, rfl, hb, ?_⟩
      have := hcell i (by omega)
      rw [add_plain] at this
      rw [this, List.getElem_take, List.getD_eq_getElem?_getD, List.getElem?_eq_getElem (by omega)]
      rfl
    · exact all_sizes (ss.take n) (strs (ss.take n)) rfl (fun m hm => hall m (List.mem_cons_of_mem _ (List.mem_append_left _ hm)))
    · have := hall _ (List.mem_cons_self ..)
      rw [show Try.prog.bytesOf 9 = 16 from by kernel_rfl] at this
      have h1 : ((strs (ss.take n) : List (DataW H))).length = n := by simp [strs]; omega
      rw [h1] at this
      rw [List.length_take, Nat.min_eq_left hl2]
      have h2 : reachBytes = 140737488351232 := rfl
      omega

set_option maxRecDepth 100000 in
theorem okWide_arr {W : World} {r : Reach} {b0 n : Nat} {T E : TypeId} {v : Value} (ht : Try.prog.underlying T = some (.array n E)) (h : Value.okWide Try.prog W r b0 T v) : ∃ cs, v = .agg cs ∧ cs.size = Try.prog.cellsOf T := by
  simp only [Value.okWide, ht] at h
  obtain ⟨cs, h1, h2, _⟩ := h
  exact ⟨cs, h1, h2⟩
set_option maxRecDepth 100000 in
/-- An array of integers that came in. -/
theorem open_arr {H : Type} {enc : TypeId × Value → H} {W : World} {base : Nat} {sp : Nat → Bool} {held : Bool} {v : Value} {d : DataW H} {p : List MemPlace} {r : Reach} {b0 n : Nat} {T E : TypeId} {k : IntKind}
    (ht : Try.prog.underlying T = some (.array n E)) (he : Try.prog.underlying E = some (.int k)) (hc : Try.prog.cellsOf E = 1) (hn : Try.prog.cellsOf T = n)
    (hv : Value.okWide Try.prog W r b0 T v) (h : DataW.Trod enc Try.prog W base sp held T v d p) : ∃ l : List Int, l.length = n ∧ v = .agg (l.map (Value.int k)).toArray ∧ ∀ z ∈ l, (Lit.int k z).wf = true := by
  obtain ⟨cs, rfl, hsz⟩ := okWide_arr ht hv
  rw [hn] at hsz
  obtain ⟨fuel, hf⟩ := h
  obtain ⟨xs, m, _, _, _, hxl, hx⟩ := DataW.trod_array ht hf
  have each : ∀ i, i < n → ∃ z, cs[i]? = some (.int k z) ∧ (Lit.int k z).wf = true := by
    intro i hi
    have h1 := hx i hi
    have hi2 : i < cs.size := by rw [hsz]; exact hi
    rw [hc, Nat.mul_one] at h1
    have h2 : ((Value.agg cs).cells.toList.drop i).take 1 = [cs[i]'hi2] := by
      show ((cs.toList).drop i).take 1 = _
      rw [List.drop_eq_getElem_cons (by rw [Array.length_toList]; exact hi2)]
      simp
    rw [h2, List.getElem?_eq_getElem (by rw [hxl]; exact hi)] at h1
    obtain ⟨z, e, _, wz⟩ := DataW.trod_int he h1
    injection e with e
    exact ⟨z, by rw [Array.getElem?_eq_getElem hi2, e], wz⟩
  refine ⟨List.ofFn fun i : Fin n => Classical.choose (each i.1 i.2), by rw [List.length_ofFn], ?_, ?_⟩
  · congr 1
    apply Array.ext_getElem?
    intro i
    show cs[i]? = _
    have e0 : ((List.map (Value.int k) (List.ofFn fun i : Fin n => Classical.choose (each i.1 i.2))).toArray)[i]? = ((List.ofFn fun i : Fin n => Classical.choose (each i.1 i.2))[i]?).map (Value.int k) := by rw [List.getElem?_toArray, List.getElem?_map]
    refine Eq.trans ?_ e0.symm
    rcases Nat.lt_or_ge i n with hi | hi
    · rw [List.getElem?_eq_getElem (by rw [List.length_ofFn]; exact hi), List.getElem_ofFn]
      exact (Classical.choose_spec (each i hi)).1
    · rw [List.getElem?_eq_none (by rw [List.length_ofFn]; exact hi), Array.getElem?_eq_none (by omega)]; rfl
  · intro z hz
    obtain ⟨i, rfl⟩ := List.mem_ofFn.1 hz
    exact (Classical.choose_spec (each i.1 i.2)).2
theorem ints_u32 (l : List Int) (h : ∀ z ∈ l, (Lit.int .u32 z).wf = true) : ∃ m : List (BitVec 32), l.map (Value.int .u32) = m.map (fun x => Value.int .u32 (bvi x)) := by
  induction l with
  | nil => exact ⟨[], rfl⟩
  | cons z l ih =>
    obtain ⟨m, hm⟩ := ih fun y hy => h y (by simp [hy])
    obtain ⟨x, rfl⟩ := wf_u32 (h z (by simp))
    exact ⟨x :: m, by rw [List.map_cons, List.map_cons, hm]⟩
theorem ints_u8 (l : List Int) (h : ∀ z ∈ l, (Lit.int .u8 z).wf = true) : ∃ m : List UInt8, l.map (Value.int .u8) = cells m := by
  induction l with
  | nil => exact ⟨[], rfl⟩
  | cons z l ih =>
    obtain ⟨m, hm⟩ := ih fun y hy => h y (by simp [hy])
    obtain ⟨x, rfl⟩ := wf_u8 (h z (by simp))
    exact ⟨⟨x⟩ :: m, by rw [List.map_cons, hm]; rfl⟩
set_option maxRecDepth 100000 in
theorem open_arr_u32 {H : Type} {enc : TypeId × Value → H} {W : World} {base : Nat} {sp : Nat → Bool} {held : Bool} {v : Value} {d : DataW H} {p : List MemPlace} {r : Reach} {b0 n : Nat} {T : TypeId}
    (ht : Try.prog.underlying T = some (.array n 62)) (hn : Try.prog.cellsOf T = n)
    (hv : Value.okWide Try.prog W r b0 T v) (h : DataW.Trod enc Try.prog W base sp held T v d p) : ∃ l : List (BitVec 32), l.length = n ∧ v = .agg (l.map (fun x => Value.int .u32 (bvi x))).toArray := by
  obtain ⟨l, hl, rfl, hw⟩ := open_arr ht Try.underlying62 (by kernel_rfl) hn hv h
  obtain ⟨m, hm⟩ := ints_u32 l hw
  refine ⟨m, ?_, by rw [hm]⟩
  have := congrArg List.length hm
  simp at this
  omega
set_option maxRecDepth 100000 in
theorem open_arr_u8 {H : Type} {enc : TypeId × Value → H} {W : World} {base : Nat} {sp : Nat → Bool} {held : Bool} {v : Value} {d : DataW H} {p : List MemPlace} {r : Reach} {b0 n : Nat} {T : TypeId}
    (ht : Try.prog.underlying T = some (.array n 5)) (hn : Try.prog.cellsOf T = n)
    (hv : Value.okWide Try.prog W r b0 T v) (h : DataW.Trod enc Try.prog W base sp held T v d p) : ∃ l : List UInt8, l.length = n ∧ v = .agg (cells l).toArray := by
  obtain ⟨l, hl, rfl, hw⟩ := open_arr ht Try.underlying5 (by kernel_rfl) hn hv h
  obtain ⟨m, hm⟩ := ints_u8 l hw
  refine ⟨m, ?_, by rw [hm]⟩
  have := congrArg List.length hm
  rw [cells_length] at this
  simp at this
  omega
end Go.Proofs.Ytfglhemmccihfaa
