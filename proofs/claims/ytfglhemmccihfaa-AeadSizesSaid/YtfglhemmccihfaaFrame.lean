/-
  The frame of every law's proof: from a walk ('it returns true, and nothing that was there has turned') to what the row asks.
-/
import Derived.Test.YtfglhemmccihfaaRows
import Derived.Test.YtfglhemmccihfaaBase
import Derived.ProofKit
import Derived.OpenShut
import Derived.ShutString
import Derived.SizedLaws
namespace Go.Proofs.Ytfglhemmccihfaa
open Go.ChangeShapes Go.WideShapes Go.ChangeAt Go.RowKit
open Go.ChangeMaps (open_string shut_string)

theorem Try.ownKnob : ownKnob Try.prog.godebug = none := by kernel_rfl
theorem Try.laidOut : laidOutB Try.prog = true := by kernel_rfl

theorem trodAll_below {H : Type} {enc : TypeId × Value → H} {P : Program} (hl : laidOutB P = true) {W W' : World} (hb : Below W.heap.size W W') :
    ∀ (ts : List TypeId) (vs : List Value) (ds : List (DataW H)) (ps : List MemPlace), (∀ t ∈ ts, P.readableRec t = true ∧ t < P.types.size) → (∀ x ∈ ps, x.block < W.heap.size) →
      DataW.TrodAll enc P W 0 (fun _ => true) true ts vs ds ps → DataW.TrodAll enc P W' 0 (fun b => decide (b < W.heap.size)) true ts vs ds ps := by
  intro ts
  induction ts with
  | nil =>
    intro vs ds ps _ _ h
    obtain ⟨rfl, rfl, rfl⟩ := trodAll_nil h
    exact rfl
  | cons t ts ih =>
    intro vs ds ps hr hlt h
    obtain ⟨v, vs', d, ds', p, q, rfl, rfl, rfl, h1, h2⟩ := trodAll_cons h
    refine ⟨p, q, ?_, ih vs' ds' q (fun t ht => hr t (by simp [ht])) (fun x hx => hlt x (by simp [hx])) h2, rfl⟩
    exact Below.trod hl (hr t (by simp)).1 (hr t (by simp)).2 h1 hb (fun x hx => hlt x (by simp [hx]))

theorem trodAll_length {H : Type} {enc : TypeId × Value → H} {P : Program} {W : World} {base : Nat} {sp : Nat → Bool} {hd : Bool} :
    ∀ (ts : List TypeId) (vs : List Value) (ds : List (DataW H)) (ps : List MemPlace), DataW.TrodAll enc P W base sp hd ts vs ds ps → ds.length = ts.length := by
  intro ts
  induction ts with
  | nil => intro vs ds ps h; obtain ⟨_, rfl, _⟩ := trodAll_nil h; rfl
  | cons t ts ih => intro vs ds ps h; obtain ⟨v, vs', d, ds', p, q, rfl, rfl, rfl, h1, h2⟩ := trodAll_cons h; simp [ih _ _ _ h2]

/-- What the row asks behind the call, of a law that returned true. -/
theorem law_post {H : Type} {enc : TypeId × Value → H} {fn : Func} {s : ChangeSpec} {W W' : World} {args : Array Value} {ds gs : List (DataW H)} {before : List MemPlace}
    (hvars : s.vars = []) (hread : fn.params.toList.all (fun t => Try.prog.readableRec t && decide (t < Try.prog.types.size)) = true)
    (hrt : fn.resultTypes.toList = [4])
    (hspec : DataW.TrodAll enc Try.prog W 0 (fun _ => true) true fn.params.toList args.toList ds before → s.fn H ds = { results := [.lit (.bool true)], args := ds })
    (hW : DataW.Whole enc Try.prog fn.params.toList s.vars false W args.toList ds gs before) (hb : Below W.heap.size W W') :
    s.post enc Try.prog fn false true false false W args (.bool true) W' := by
  have hW' := hW
  have hlt : ∀ x ∈ before, x.block < W.heap.size := fun x hx => by simpa using hW.lt x hx
  obtain ⟨p, q, hA, hV, rfl, _, _⟩ := hW
  rw [hvars] at hV
  obtain ⟨rfl, rfl⟩ := trodVars_none hV
  simp only [List.append_nil] at hW' hlt hspec
  have hs := hspec hA
  refine ⟨ds, [], p, [], p, [], hW', ?_, ?_, ?_, hb.frame _, fun h => by cases h⟩
  · rw [List.append_nil, hs]
    have hsz : fn.resultTypes.size = 1 := by rw [← Array.length_toList, hrt]; rfl
    rw [hrt, hsz]
    exact trodAll_cons_mk (shut_bool Try.underlying4 _) trodAll_mk0
  · rw [List.append_nil, hs]
    exact trodAll_below Try.laidOut hb _ _ _ _ (fun t ht => by
      have := List.all_eq_true.1 hread t ht
      simpa using this) hlt hA
  · rw [List.append_nil, hs, hvars]
    rfl

set_option maxRecDepth 100000 in
/-- From the walk to the row's step. 'walk' gets the arguments as they were read, and the form's own reach. -/
theorem law_lifted (K : FuncId) (fn : Func) (s : ChangeSpec) (hvars : s.vars = []) (hfn : Try.prog.funcs[K]? = some fn) (noInit : Try.prog.inits.idxOf? K = none)
    (hread : fn.params.toList.all (fun t => Try.prog.readableRec t && decide (t < Try.prog.types.size)) = true) (hrt : fn.resultTypes.toList = [4])
    (hspec : ∀ (H : Type) (ds : List (DataW H)), ds.length = fn.params.toList.length → s.fn H ds = { results := [.lit (.bool true)], args := ds })
    (os : Os) (started : os.Started) (H : Type) (enc : TypeId × Value → H)
    (witness : ∃ (w : World) (tape : Tape) (i : Input), w.os = os ∧ (w.forCall tape i).Shaped Try.checked.prog ∧ i.vars = [] ∧ Input.okWide Try.checked.prog (w.forCall tape i) .any w.heap.size K i ∧
      s.pre6 enc Try.checked.prog fn [] false (w.forCall tape i).memory i.args ∧ ({} : Assume).holds Try.checked.prog (lone (Frame.enter Try.checked.prog K i.args .normal) [] (w.forCall tape i)))
    (walk : ∀ (W : World) (base : Nat) (args : Array Value) (ds : List (DataW H)) (before : List MemPlace),
      (∀ (j : Nat) t v, fn.params[j]? = some t → args[j]? = some v → Value.okWide Try.prog W .any base t v) →
      DataW.TrodAll enc Try.prog W 0 (fun _ => true) true fn.params.toList args.toList ds before → (∀ x ∈ before, x.block < W.heap.size) →
      (DataW.weightsEach Try.prog fn.params.toList ds).all (· ≤ reachBytes) = true →
      Calls Try.prog K args W fun e W' => e = .returned (.bool true) ∧ Below W.heap.size W W') :
    ReturnsInHanded {} Try.checked os K .any (s.pre6 enc Try.prog fn [] false) (s.post enc Try.prog fn false true false false) := by
  refine returnsInHanded_of_change_sized (C := Try.checked) Try.ownKnob started noInit hfn witness ?_
  intro W base args ds gs before hval hW _ hsz _
  have hW2 : DataW.Whole enc Try.prog fn.params.toList s.vars false W args.toList ds gs before := hW
  have hlt : ∀ x ∈ before, x.block < W.heap.size := fun x hx => by simpa using hW2.lt x hx
  obtain ⟨p, q, hA, hV, hpq, hfz, hnd⟩ := id hW2
  rw [hvars] at hV
  obtain ⟨rfl, rfl⟩ := trodVars_none hV
  rw [List.append_nil] at hpq
  subst hpq
  have hlen : ds.length = fn.params.toList.length := trodAll_length _ _ _ _ hA
  refine (walk W base args ds before hval hA hlt ?_).mono fun e W' ⟨he, hb⟩ => ?_
  · have h2 : (DataW.weightsEach Try.prog (fn.params.toList ++ s.plain.varTypes Try.prog) (ds ++ [])).all (· ≤ reachBytes) = true := hsz
    have h3 : s.plain.varTypes Try.prog = [] := by
      unfold DataSpec.varTypes ChangeSpec.plain
      rw [hvars]; rfl
    rw [h3, List.append_nil, List.append_nil] at h2
    exact h2
  · subst he
    exact ⟨_, rfl, law_post hvars hread hrt (fun _ => hspec H ds hlen) hW2 hb⟩

theorem wf_unsigned {k : IntKind} (hk : k.signed = false) {a : Int} (h : (Lit.int k a).wf = true) : ∃ x : BitVec k.bits, a = bvi x := by
  have h2 : k.min ≤ a ∧ a ≤ k.max := by simpa [Lit.wf] using h
  refine ⟨BitVec.ofInt k.bits a, (bvi_ofInt _ _ ?_ ?_).symm⟩
  · have h3 : k.min = 0 := by cases k <;> simp_all [IntKind.min, IntKind.signed]
    omega
  · have h3 : k.max = ((2 ^ k.bits : Nat) : Int) - 1 := by cases k <;> simp_all [IntKind.max, IntKind.signed, IntKind.bits]
    omega
theorem wf_u8 {a : Int} (h : (Lit.int .u8 a).wf = true) : ∃ x : BitVec 8, a = bvi x := wf_unsigned (k := .u8) rfl h
theorem wf_u16 {a : Int} (h : (Lit.int .u16 a).wf = true) : ∃ x : BitVec 16, a = bvi x := wf_unsigned (k := .u16) rfl h
theorem wf_u32 {a : Int} (h : (Lit.int .u32 a).wf = true) : ∃ x : BitVec 32, a = bvi x := wf_unsigned (k := .u32) rfl h
theorem wf_u64 {a : Int} (h : (Lit.int .u64 a).wf = true) : ∃ x : BitVec 64, a = bvi x := wf_unsigned (k := .u64) rfl h
theorem wf_i64 {a : Int} (h : (Lit.int .i64 a).wf = true) : -9223372036854775808 ≤ a ∧ a ≤ 9223372036854775807 := by
  have h2 : IntKind.i64.min ≤ a ∧ a ≤ IntKind.i64.max := by simpa [Lit.wf] using h
  simpa [IntKind.min, IntKind.max, IntKind.bits, IntKind.signed] using h2
theorem str_size {H : Type} {ts : List TypeId} {ds : List (DataW H)} (h : (DataW.weightsEach Try.prog ts ds).all (· ≤ reachBytes) = true) {j : Nat} {t : TypeId} {s : ByteArray}
    (ht : ts[j]? = some t) (hd : ds[j]? = some (.lit (.string s.data.toList))) : s.size ≤ 140737488351232 := by
  have := sized_string h ht hd
  rw [Array.length_toList] at this
  exact this
end Go.Proofs.Ytfglhemmccihfaa
