/-
  Files in the order of their names, as plain lists. No conditions of its own.
-/
import Derived.Test.YtpbpgjfdledgoaaGreatDoorZc02
namespace Go.Proofs.YtpbpgjfdledgoaaGreatDoor
open Go.WideAt Go.WideShapes

theorem rising_mid {A B : Fs} {x : Nm × Fi} (h : Rising (A ++ x :: B)) : (∀ a ∈ A, bytesBefore a.1 x.1 = true) ∧ (∀ c ∈ B, bytesBefore x.1 c.1 = true) := by
  unfold Rising at h
  rw [List.pairwise_append] at h
  obtain ⟨_, h2, h3⟩ := h
  rw [List.pairwise_cons] at h2
  exact ⟨fun a ha => h3 a ha x (by simp), fun c hc => h2.1 c hc⟩
theorem before_ne {a b : Nm} (h : bytesBefore a b = true) : a ≠ b := by
  rintro rfl
  rw [bytes_irrefl] at h
  cases h
theorem before_asymm {a b : Nm} (h : bytesBefore a b = true) : bytesBefore b a = false := by
  cases hb : bytesBefore b a
  · rfl
  · have := bytes_trans _ _ _ h hb
    rw [bytes_irrefl] at this
    cases this
theorem getF_mid {A B : Fs} {n : Nm} {f : Fi} (h : Rising (A ++ (n, f) :: B)) : getF (A ++ (n, f) :: B) n = some f := by
  obtain ⟨h1, _⟩ := rising_mid h
  unfold getF
  rw [List.find?_append]
  have : A.find? (isNm n) = none := by
    rw [List.find?_eq_none]
    intro a ha
    simpa [isNm] using before_ne (h1 a ha)
  rw [this]
  simp [isNm]
theorem delF_mid {A B : Fs} {n : Nm} {f : Fi} (h : Rising (A ++ (n, f) :: B)) : delF (A ++ (n, f) :: B) n = A ++ B := by
  obtain ⟨h1, h2⟩ := rising_mid h
  unfold delF
  rw [List.filter_append, List.filter_cons]
  have e1 : A.filter (fun p => !isNm n p) = A := by
    rw [List.filter_eq_self]
    intro a ha
    simpa [isNm] using before_ne (h1 a ha)
  have e2 : B.filter (fun p => !isNm n p) = B := by
    rw [List.filter_eq_self]
    intro a ha
    have := before_ne (h2 a ha)
    simpa [isNm] using fun e => this e.symm
  rw [e1, e2]
  simp [isNm]
theorem insF_mid {n : Nm} {f : Fi} {B : Fs} (h2 : ∀ c ∈ B, bytesBefore n c.1 = true) : ∀ {A : Fs}, (∀ a ∈ A, bytesBefore a.1 n = true) → insF (n, f) (A ++ B) = A ++ (n, f) :: B
  | [], _ => by
    cases B with
    | nil => rfl
    | cons c B =>
      have := h2 c (by simp)
      simp [insF, this]
  | a :: A, h1 => by
    have h := before_asymm (h1 a (by simp))
    have ih := insF_mid (f := f) h2 (A := A) (fun x hx => h1 x (by simp [hx]))
    simp only [List.cons_append, insF, h, Bool.false_eq_true, if_false, ih]
theorem putF_mid {A B : Fs} {n : Nm} {f g : Fi} (h : Rising (A ++ (n, f) :: B)) : putF (A ++ (n, f) :: B) n g = A ++ (n, g) :: B := by
  obtain ⟨h1, h2⟩ := rising_mid h
  unfold putF
  rw [delF_mid h]
  exact insF_mid h2 h1
/-- a file behind a crash -/
def crashK (keep : Int) (f : Fi) : Nat := f.k + (max 0 (min keep ((f.s.size : Int) - f.k))).toNat
def crashF (keep : Int) (f : Fi) : Fi := ⟨f.s.extract 0 (crashK keep f), crashK keep f⟩
def crashP (keep : Int) (p : Nm × Fi) : Nm × Fi := (p.1, crashF keep p.2)
theorem crashK_le (keep : Int) {f : Fi} (h : f.k ≤ f.s.size) : crashK keep f ≤ f.s.size := by unfold crashK; omega
theorem crashF_ok (keep : Int) {f : Fi} (h : FileOk f) : FileOk (crashF keep f) := by
  have h2 := crashK_le keep h.2
  have h3 : (crashF keep f).s.size = crashK keep f := by simp [crashF]; omega
  refine ⟨?_, ?_⟩
  · rw [h3]; exact Nat.le_trans h2 h.1
  · rw [h3]; exact Nat.le_refl _
theorem crash_length (keep : Int) (fs : Fs) (k : Nat) (hk : k ≤ fs.length) : ((fs.take k).map (crashP keep) ++ fs.drop k).length = fs.length := by simp; omega
theorem crash_names (keep : Int) (fs : Fs) (k : Nat) : ((fs.take k).map (crashP keep) ++ fs.drop k).map (·.1) = fs.map (·.1) := by
  rw [List.map_append, List.map_map]
  have : ((fun x : Nm × Fi => x.1) ∘ crashP keep) = fun x => x.1 := rfl
  rw [this, ← List.map_append, List.take_append_drop]
theorem rising_names {fs gs : Fs} (h : fs.map (·.1) = gs.map (·.1)) (hr : Rising fs) : Rising gs := by
  have h1 : (fs.map (·.1)).Pairwise (fun a b => bytesBefore a b = true) := by rw [List.pairwise_map]; exact hr
  rw [h, List.pairwise_map] at h1
  exact h1
/-- one step of a crash -/
theorem crash_step (keep : Int) {fs : Fs} (hr : Rising fs) (k : Nat) (hk : k < fs.length) :
    getF ((fs.take k).map (crashP keep) ++ fs.drop k) fs[k].1 = some fs[k].2 ∧ putF ((fs.take k).map (crashP keep) ++ fs.drop k) fs[k].1 (crashF keep fs[k].2) = (fs.take (k + 1)).map (crashP keep) ++ fs.drop (k + 1) := by
  have hR : Rising ((fs.take k).map (crashP keep) ++ fs.drop k) := rising_names (crash_names keep fs k).symm hr
  have e : (fs.take k).map (crashP keep) ++ fs.drop k = (fs.take k).map (crashP keep) ++ (fs[k].1, fs[k].2) :: fs.drop (k + 1) := by rw [List.drop_eq_getElem_cons hk]
  rw [e] at hR ⊢
  refine ⟨getF_mid hR, ?_⟩
  rw [putF_mid hR, List.take_succ_eq_append_getElem hk, List.map_append, List.append_assoc]
  rfl

end Go.Proofs.YtpbpgjfdledgoaaGreatDoor
