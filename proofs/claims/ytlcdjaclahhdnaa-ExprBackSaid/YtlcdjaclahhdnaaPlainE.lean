/- Plain laws of an expression put and taken again. -/
import Derived.Test.YtlcdjaclahhdnaaPutE
import Derived.Test.YtlcdjaclahhdnaaSame
namespace Go.Proofs.Ytlcdjaclahhdnaa
open Go.RowKit
set_option linter.unusedSimpArgs false
set_option linter.unusedVariables false

mutual
/-- An expression whose constants are plain. -/
def Ex.plain : Ex → Ex
  | .mk k r c v l => .mk k r c v.plain (Exs.plain l)
termination_by structural e => e
def Exs.plain : List Ex → List Ex
  | [] => []
  | e :: l => e.plain :: Exs.plain l
termination_by structural l => l
end
mutual
/-- How many levels it has. -/
def Ex.high : Ex → Nat
  | .mk _ _ _ _ l => 1 + Exs.high l
termination_by structural e => e
def Exs.high : List Ex → Nat
  | [] => 0
  | e :: l => max e.high (Exs.high l)
termination_by structural l => l
end
theorem Exs.plain_map (l : List Ex) : Exs.plain l = l.map Ex.plain := by
  induction l with
  | nil => rfl
  | cons e l ih => simp only [Exs.plain, List.map_cons, ih]
theorem Exs.plain_length (l : List Ex) : (Exs.plain l).length = l.length := by rw [Exs.plain_map, List.length_map]
theorem Exs.high_le {l : List Ex} {e : Ex} (h : e ∈ l) : e.high ≤ Exs.high l := by
  induction l with
  | nil => simp at h
  | cons f l ih =>
    simp only [Exs.high]
    rcases List.mem_cons.1 h with rfl | h
    · omega
    · have := ih h; omega
theorem Exs.nodes_pos (e : Ex) : 1 ≤ e.nodes := by cases e; simp only [Ex.nodes]; omega
/-- What a count that is not negative says. -/
theorem Exs.count_says (l : List Ex) (ih : ∀ e ∈ l, ∀ d left, 0 ≤ e.count d left → e.count d left = left - e.nodes ∧ d + e.high ≤ 25) :
    ∀ d left, 0 ≤ left → d ≤ 25 → 0 ≤ Exs.count l d left → Exs.count l d left = left - Exs.nodes l ∧ d + Exs.high l ≤ 25 := by
  induction l with
  | nil => intro d left h hd _; simp only [Exs.count, Exs.nodes, Exs.high]; omega
  | cons e l ih2 =>
    intro d left h hd hc
    simp only [Exs.count] at hc ⊢
    split at hc
    · omega
    · rename_i hn
      rw [if_neg hn]
      have h1 := ih e (by simp) d left (by omega)
      have h2 := ih2 (fun e he => ih e (by simp [he])) d (e.count d left) (by omega) hd hc
      simp only [Exs.nodes, Exs.high]
      omega
theorem Ex.count_says : ∀ (e : Ex) (d left : Int), 0 ≤ e.count d left → e.count d left = left - e.nodes ∧ d + e.high ≤ 25 := by
  intro e
  induction e using Ex.ind with
  | h k r c v l ih =>
    intro d left h
    simp only [Ex.count] at h ⊢
    split at h
    · omega
    · rename_i hn
      rw [if_neg hn]
      have h1 := Exs.count_says l ih (d + 1) (left - 1) (by omega) (by omega) h
      simp only [Ex.nodes, Ex.high]
      omega
theorem Val.plain_kind {v : Val} (hr : v.right = true) : v.plain.kind = v.kind := by
  unfold Val.plain
  rw [if_pos hr]
  split <;> rfl
theorem fieldsOk_plain {k r c : Int} {v : Val} (hv : v.Ok) (h : fieldsOk k r c v = true) : fieldsOk k r c v.plain = true ∧ v.plain.kind = v.kind := by
  unfold fieldsOk at h ⊢
  split at h
  · cases h
  · rename_i hn
    rw [if_neg hn]
    simp only [Bool.and_eq_true] at h ⊢
    rw [Val.plain_kind h.1]
    exact ⟨⟨(Val.plain_flat hv).right, h.2⟩, rfl⟩
mutual
/-- All constants can be. -/
def Ex.Oks : Ex → Prop
  | .mk _ _ _ v l => v.Ok ∧ Exs.Oks l
termination_by structural e => e
def Exs.Oks : List Ex → Prop
  | [] => True
  | e :: l => e.Oks ∧ Exs.Oks l
termination_by structural l => l
end
theorem Exs.oks_iff (l : List Ex) : Exs.Oks l ↔ ∀ e ∈ l, e.Oks := by
  induction l with
  | nil => simp [Exs.Oks]
  | cons e l ih => simp [Exs.Oks, ih]
theorem Ex.In.oks {w : World} : ∀ (e : Ex) (s : Value), Ex.In w e s → e.Oks := by
  intro e
  induction e using Ex.ind with
  | h k r c v l ih =>
    intro s h
    simp only [Ex.Oks]
    refine ⟨h.fields.2.2.2, (Exs.oks_iff l).2 fun e he => ?_⟩
    obtain ⟨i, hi, rfl⟩ := List.getElem_of_mem he
    obtain ⟨_, A, cap, rfl, _⟩ := h.kids
    obtain ⟨g, o, s', _, _, _, h2, _⟩ := h.kids.get i hi
    exact ih _ (List.getElem_mem hi) s' h2
theorem Exs.count_plain (l : List Ex) (ih : ∀ e ∈ l, ∀ d left, 0 ≤ e.count d left → e.plain.count d left = e.count d left) :
    ∀ d left, 0 ≤ Exs.count l d left → Exs.count (Exs.plain l) d left = Exs.count l d left := by
  induction l with
  | nil => intro d left _; simp only [Exs.plain]
  | cons e l ih2 =>
    intro d left h
    simp only [Exs.count] at h
    split at h
    · omega
    · rename_i hn
      simp only [Exs.plain, Exs.count]
      rw [ih e (by simp) d left (by omega), ih2 (fun e he => ih e (by simp [he])) d _ h]
theorem Ex.count_plain : ∀ (e : Ex) (d left : Int), e.Oks → 0 ≤ e.count d left → e.plain.count d left = e.count d left := by
  intro e
  induction e using Ex.ind with
  | h k r c v l ih =>
    intro d left ho h
    simp only [Ex.Oks] at ho
    have hos := (Exs.oks_iff l).1 ho.2
    simp only [Ex.count] at h
    split at h
    · omega
    · rename_i hn
      have hf : fieldsOk k r c v = true := by
        cases hq : fieldsOk k r c v
        · exact absurd (.inr (.inr (.inr hq))) hn
        · rfl
      have hf2 := (fieldsOk_plain ho.1 hf).1
      simp only [Ex.plain, Ex.count]
      rw [Exs.plain_length, Exs.count_plain l (fun e he d left => ih e he d left (hos e he)) (d + 1) (left - 1) h]
      rw [if_neg hn, if_neg (by rw [hf2]; rw [hf] at hn; exact hn)]
theorem Exs.same_plain (l : List Ex) (h : ∀ e ∈ l, e.plain.same e = true) : Exs.same (Exs.plain l) l = true := by
  induction l with
  | nil => simp only [Exs.plain, Exs.same]
  | cons e l ih =>
    simp only [Exs.plain, Exs.same]
    rw [h e (by simp), ih fun e he => h e (by simp [he])]; rfl
theorem Ex.same_plain : ∀ (e : Ex), e.Oks → e.wf = true → e.plain.same e = true := by
  intro e
  induction e using Ex.ind with
  | h k r c v l ih =>
    intro ho hwf
    simp only [Ex.Oks] at ho
    have hos := (Exs.oks_iff l).1 ho.2
    simp only [Ex.wf, Bool.and_eq_true, decide_eq_true_eq] at hwf
    obtain ⟨⟨hk0, hf⟩, hl⟩ := hwf
    rw [Exs.wf_iff] at hl
    simp only [Ex.plain, Ex.same, Ex.kind, Ex.rel, Ex.col, Ex.const, Ex.kids]
    rw [Exs.plain_length, (fieldsOk_plain ho.1 hf).2, Go.Proofs.Ytlcdjaclahhdnaa.same_plain ho.1, Exs.same_plain l fun e he => ih e he (hos e he) (hl e he)]
    simp
end Go.Proofs.Ytlcdjaclahhdnaa
