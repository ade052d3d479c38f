/-
  Arrays of strings among a law's arguments; a disk with one file, as data. No conditions of its own.
-/
import Derived.Test.YtdckdndjddflfaaDkH
import Derived.SizedLaws
namespace Go.Proofs.Ytdckdndjddflfaa
open Go.ChangeShapes Go.WideShapes Go.ChangeAt Go.RowKit Go.Joins Go.Deep

set_option maxRecDepth 100000 in
/-- The lift of a law, where the arguments' sizes count: none is longer than what can be held. -/
theorem law_sized {f : FuncId} {fn : Func} {s : ChangeSpec} {tb : TypeId} (os : Os) (started : os.Started) (H : Type) (enc : TypeId × Value → H)
    (noInit : Try.prog.inits.idxOf? f = none) (hfn : Try.prog.funcs[f]? = some fn)
    (witness : ∃ (w : World) (tape : Tape) (i : Input), w.os = os ∧ (w.forCall tape i).Shaped Try.checked.prog ∧ i.vars = [] ∧ Input.okWide Try.checked.prog (w.forCall tape i) .any w.heap.size f i ∧
      s.pre6 enc Try.checked.prog fn [] false (w.forCall tape i).memory i.args ∧ ({} : Assume).holds Try.checked.prog (lone (Frame.enter Try.checked.prog f i.args .normal) [] (w.forCall tape i)))
    (hread : ∀ t ∈ fn.params.toList, Try.prog.readableRec t = true ∧ t < Try.prog.types.size) (hres : fn.resultTypes = #[tb]) (hbool : Try.prog.underlying tb = some .bool)
    (hvars : s.vars = []) (hs : ∀ ds : List (DataW H), ds.length = fn.params.size → s.fn H ds = { results := [.lit (.bool true)], args := ds })
    (walk : ∀ (W : World) (base : Nat) (args : Array Value) (ds : List (DataW H)) (p : List MemPlace),
      (∀ (j : Nat) t v, fn.params[j]? = some t → args[j]? = some v → Value.okWide Try.prog W .any base t v) →
      DataW.TrodAll enc Try.prog W 0 (fun _ => true) true fn.params.toList args.toList ds p →
      (∀ (j : Nat) t d, fn.params.toList[j]? = some t → ds[j]? = some d → ∀ n ∈ d.weights Try.prog t, n ≤ 140737488355328) →
      Calls Try.prog f args W fun e W' => e = .returned (.bool true) ∧ Keeps No W W') :
    ReturnsInHanded {} Try.checked os f .any (s.pre6 enc Try.prog fn [] false) (s.post enc Try.prog fn false true false false) := by
  refine returnsInHanded_of_change_sized (C := Try.checked) Try.own started noInit hfn witness ?_
  intro W base args ds gs before hval hW _ hsz _
  have hW' : DataW.Whole enc Try.prog fn.params.toList s.vars false W args.toList ds gs before := hW
  obtain ⟨p, q, hA, hV, _, _, _⟩ := hW
  have hA' : DataW.TrodAll enc Try.prog W 0 (fun _ => true) true fn.params.toList args.toList ds p := hA
  have hlen : ∀ (ts : List TypeId) (vs : List Value) (ds : List (DataW H)) (p : List MemPlace), DataW.TrodAll enc Try.prog W 0 (fun _ => true) true ts vs ds p → ds.length = ts.length := by
    intro ts
    induction ts with
    | nil => intro vs ds p h; cases vs <;> cases ds <;> simp_all [DataW.TrodAll]
    | cons t ts ih =>
      intro vs ds p h
      cases vs with
      | nil => cases ds <;> simp [DataW.TrodAll] at h
      | cons v vs =>
        cases ds with
        | nil => simp [DataW.TrodAll] at h
        | cons d ds =>
          obtain ⟨_, q, _, h2, _⟩ := h
          simp [ih _ _ _ h2]
  have hsized : ∀ (j : Nat) t d, fn.params.toList[j]? = some t → ds[j]? = some d → ∀ n ∈ d.weights Try.prog t, n ≤ 140737488355328 := by
    intro j t d ht hd n hn
    have hj1 := (List.getElem?_eq_some_iff.1 ht).1
    have hj2 := (List.getElem?_eq_some_iff.1 hd).1
    have h := List.all_eq_true.1 hsz n (DataW.weights_mem_each (j := j) (t := t) (d := d) (by rw [List.getElem?_append_left hj1]; exact ht) (by rw [List.getElem?_append_left hj2]; exact hd) n hn)
    have h2 := reachBytes_lt
    simp at h
    omega
  refine (walk W base args ds p hval hA' hsized).mono fun e W' ⟨he, hk⟩ => ?_
  exact ⟨_, he, law_post Try.laidOut hread hres hbool hvars (hs ds (by rw [hlen _ _ _ _ hA']; simp)) hW' hk.below⟩


theorem k2s : Try.prog.cellsOf 22 = 2 := by kernel_rfl
theorem k3s : Try.prog.cellsOf 40 = 3 := by kernel_rfl
set_option maxRecDepth 100000 in
theorem open_arr2 {H : Type} {enc : TypeId × Value → H} {W : World} {base : Nat} {v : Value} {d : DataW H} {ps : List MemPlace}
    (hv : Value.okWide Try.prog W .any base 22 v) (h : DataW.Trod enc Try.prog W 0 (fun _ => true) true 22 v d ps) :
    ∃ s0 s1 : ByteArray, v = .agg #[.string s0, .string s1] ∧ d = .agg [.lit (.string s0.data.toList), .lit (.string s1.data.toList)] := by
  simp only [Value.okWide, Try.underlying22] at hv
  obtain ⟨cs, rfl, _, _⟩ := hv
  obtain ⟨n, hn⟩ := h
  obtain ⟨xs, m, _, hx, hl, hxl, hf⟩ := DataW.trod_array Try.underlying22 hn
  rw [k2s] at hl
  simp only [Value.cells] at hl hf
  obtain ⟨l, hcl⟩ : ∃ l, cs.toList = l := ⟨_, rfl⟩
  rw [hcl] at hl hf
  have hc : cs = l.toArray := by rw [← hcl]
  match l, hl with
  | [c0, c1], _ =>
    match xs, hxl with
    | [x0, x1], _ =>
      have h0 := hf 0 (by omega)
      have h1 := hf 1 (by omega)
      simp [kStr1] at h0 h1
      obtain ⟨s0, e0, y0, _⟩ := DataW.trod_string Try.underlying9 h0
      obtain ⟨s1, e1, y1, _⟩ := DataW.trod_string Try.underlying9 h1
      simp at e0 e1
      subst e0 e1
      refine ⟨s0, s1, by rw [hc], ?_⟩
      have := congrArg Prod.fst hx
      simp only [List.map_cons, List.map_nil, y0, y1] at this
      exact this
set_option maxRecDepth 100000 in
theorem open_arr3 {H : Type} {enc : TypeId × Value → H} {W : World} {base : Nat} {v : Value} {d : DataW H} {ps : List MemPlace}
    (hv : Value.okWide Try.prog W .any base 40 v) (h : DataW.Trod enc Try.prog W 0 (fun _ => true) true 40 v d ps) :
    ∃ s0 s1 s2 : ByteArray, v = .agg #[.string s0, .string s1, .string s2] ∧ d = .agg [.lit (.string s0.data.toList), .lit (.string s1.data.toList), .lit (.string s2.data.toList)] := by
  simp only [Value.okWide, Try.underlying40] at hv
  obtain ⟨cs, rfl, _, _⟩ := hv
  obtain ⟨n, hn⟩ := h
  obtain ⟨xs, m, _, hx, hl, hxl, hf⟩ := DataW.trod_array Try.underlying40 hn
  rw [k3s] at hl
  simp only [Value.cells] at hl hf
  obtain ⟨l, hcl⟩ : ∃ l, cs.toList = l := ⟨_, rfl⟩
  rw [hcl] at hl hf
  have hc : cs = l.toArray := by rw [← hcl]
  match l, hl with
  | [c0, c1, c2], _ =>
    match xs, hxl with
    | [x0, x1, x2], _ =>
      have h0 := hf 0 (by omega)
      have h1 := hf 1 (by omega)
      have h2 := hf 2 (by omega)
      simp [kStr1] at h0 h1 h2
      obtain ⟨s0, e0, y0, _⟩ := DataW.trod_string Try.underlying9 h0
      obtain ⟨s1, e1, y1, _⟩ := DataW.trod_string Try.underlying9 h1
      obtain ⟨s2, e2, y2, _⟩ := DataW.trod_string Try.underlying9 h2
      simp at e0 e1 e2
      subst e0 e1 e2
      refine ⟨s0, s1, s2, by rw [hc], ?_⟩
      have := congrArg Prod.fst hx
      simp only [List.map_cons, List.map_nil, y0, y1, y2] at this
      exact this

/-- no string of an array is longer than what can be held -/
theorem arr2_sized {H : Type} {s0 s1 : ByteArray} (h : ∀ n ∈ (.agg [.lit (.string s0.data.toList), .lit (.string s1.data.toList)] : DataW H).weights Try.prog 22, n ≤ 140737488355328) : s0.size ≤ 140737488355328 ∧ s1.size ≤ 140737488355328 := by
  simp [DataW.weights, DataW.weightsAll, Try.underlying22] at h
  exact h
theorem arr3_sized {H : Type} {s0 s1 s2 : ByteArray} (h : ∀ n ∈ (.agg [.lit (.string s0.data.toList), .lit (.string s1.data.toList), .lit (.string s2.data.toList)] : DataW H).weights Try.prog 40, n ≤ 140737488355328) : s0.size ≤ 140737488355328 ∧ s1.size ≤ 140737488355328 ∧ s2.size ≤ 140737488355328 := by
  simp [DataW.weights, DataW.weightsAll, Try.underlying40] at h
  exact h
theorem str_sized {H : Type} {s : ByteArray} (h : ∀ n ∈ (.lit (.string s.data.toList) : DataW H).weights Try.prog 9, n ≤ 140737488355328) : s.size ≤ 140737488355328 := by
  simp [DataW.weights] at h
  exact h

theorem bytes_ne {a b : ByteArray} (h : ¬ a = b) : (a.toList == b.toList) = false := by
  rw [beq_eq_false_iff_ne, ByteArray.toList_eq, ByteArray.toList_eq]
  exact fun e => h (bytes_of e)

/-! ### one file -/
theorem one_put (n : Nm) (f g : Fi) : putF [(n, f)] n g = [(n, g)] := by simp [putF, delF, isNm, insF]
theorem one_get (n : Nm) (f : Fi) : getF [(n, f)] n = some f := by simp [getF, isNm]
theorem one_del (n : Nm) (f : Fi) : delF [(n, f)] n = [] := by simp [delF, isNm]
theorem one_get_ne {n m : Nm} (h : ¬ n = m) (f : Fi) : getF [(n, f)] m = none := by simp [getF, isNm, h]
theorem nil_put (n : Nm) (f : Fi) : putF [] n f = [(n, f)] := rfl
/-- names that may be -/
def NmOk (n : ByteArray) : Prop := 1 ≤ n.size ∧ n.size ≤ 32
theorem find_ok {fs : Fs} {n : ByteArray} (hn : NmOk n) {f : Fi} (h : getF fs n.data.toList = some f) : findE fs n = (f, 0) := by
  unfold findE
  rw [decide_eq_false (show ¬ (n.size : Int) < 1 by have := hn.1; omega), decide_eq_false (show ¬ (32 : Int) < n.size by have := hn.2; omega), cond_false, cond_false, h]
theorem find_no {fs : Fs} {n : ByteArray} (hn : NmOk n) (h : getF fs n.data.toList = none) : findE fs n = (Fi.none, 6) := by
  unfold findE
  rw [decide_eq_false (show ¬ (n.size : Int) < 1 by have := hn.1; omega), decide_eq_false (show ¬ (32 : Int) < n.size by have := hn.2; omega), cond_false, cond_false, h]
theorem find_bad {fs : Fs} {n : ByteArray} (hn : ¬ NmOk n) : findE fs n = (Fi.none, 1) := by
  unfold findE
  by_cases h1 : (n.size : Int) < 1
  · rw [decide_eq_true h1, cond_true]
  · have h2 : (32 : Int) < n.size := by unfold NmOk at hn; omega
    rw [decide_eq_false h1, decide_eq_true h2, cond_false, cond_true]
theorem open_ok {fs : Fs} {n : ByteArray} {f : Fi} {e : Int} (h : findE fs n = (f, e)) : openE fs false n = (f, e) := by
  unfold openE
  rw [h, Bool.and_false, cond_false]
theorem cut_back (a b : ByteArray) : (a ++ b).extract 0 a.size = a := by
  apply ByteArray.ext
  simp [ByteArray.data_append]
end Go.Proofs.Ytdckdndjddflfaa
