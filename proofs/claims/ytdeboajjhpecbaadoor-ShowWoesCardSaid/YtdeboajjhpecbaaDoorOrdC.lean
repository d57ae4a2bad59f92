/- Drawn regions: what is taken first may be wanted through a chain of operations. -/
import Derived.Test.YtdeboajjhpecbaaDoorOrd
set_option linter.unusedVariables false
namespace Go.Proofs.YtdeboajjhpecbaaDoor

section
variable {P : Program} {md : Region.Mode} {ops : Array Oper} {Q : Exit → Act → World → Prop}
/-- m waits for the first of the chain, .., its last for i. -/
def chained (md : Region.Mode) (ops : Array Oper) : Nat → List Nat → Nat → Bool
  | m, [], i => waits md ops m i
  | m, k :: ks, i => waits md ops m k && chained md ops k ks i
def undone (L : Array Bool) : Nat → List Nat → Nat → Prop
  | m, [], i => L.getD i true = false → L.getD m true = false
  | m, k :: ks, i => (L.getD k true = false → L.getD m true = false) ∧ undone L k ks i
theorem undone_end {L : Array Bool} : ∀ {m : Nat} (ks : List Nat) {i : Nat}, undone L m ks i → L.getD i true = false → L.getD m true = false
  | _, [], _, h, q => h q
  | _, _ :: ks, _, h, q => h.1 (undone_end ks h.2 q)
theorem undone_start {L : Array Bool} : ∀ {m : Nat} (ks : List Nat) {i : Nat}, (m :: ks).all (fun k => !L.getD k true) = true → undone L m ks i
  | _, [], _, h => fun _ => by simpa using h
  | _, k :: ks, _, h => by
    rw [List.all_cons, Bool.and_eq_true] at h
    exact ⟨fun _ => by simpa using h.1, undone_start ks h.2⟩
theorem set_undone {L : Array Bool} {j b : Nat} (h : (L.setIfInBounds j true).getD b true = false) : L.getD b true = false := by
  rcases Decidable.em (j = b) with rfl | e
  · by_cases hj : j < L.size
    · simp [hj] at h
    · simp [hj] at h
  · rwa [getD_set_ne true e] at h
theorem waits_dep {a b j : Nat} {L : Array Bool} (hw : waits md ops a b = true) (hj : a ∈ Region.ready md ops L) (hb : L.getD b true = false) : False := by
  obtain ⟨_, o, ho, hdeps⟩ := mem_ready.1 hj
  simp only [waits, ho, Array.any_eq_true'] at hw
  obtain ⟨e, he, hb2⟩ := hw
  rw [Bool.and_eq_true, beq_iff_eq] at hb2
  exact listed_false hb (hb2.2 ▸ hdeps e he hb2.1)
theorem pair_step {a b j : Nat} {L : Array Bool} (hw : waits md ops a b = true) (hj : j ∈ Region.ready md ops L) (h : L.getD b true = false → L.getD a true = false) : (L.setIfInBounds j true).getD b true = false → (L.setIfInBounds j true).getD a true = false := fun q => by
  have hb := set_undone q
  rcases Decidable.em (j = a) with rfl | e
  · exact (waits_dep (j := 0) hw hj hb).elim
  · rw [getD_set_ne true e]; exact h hb
theorem undone_step {j : Nat} {L : Array Bool} (hj : j ∈ Region.ready md ops L) : ∀ {m : Nat} (ks : List Nat) {i : Nat}, chained md ops m ks i = true → undone L m ks i → undone (L.setIfInBounds j true) m ks i
  | _, [], _, hc, h => pair_step hc hj h
  | _, k :: ks, _, hc, h => by
    rw [chained, Bool.and_eq_true] at hc
    exact ⟨pair_step hc.1 hj h.1, undone_step hj ks hc.2 h.2⟩
theorem tillH_takeC (ks : List Nat) {m i : Nat} {S : World → Prop} {oi : Oper} {v : Value} {n : Nat} {ls : Array Bool} {a : Act} {w : World} (hi : ops[i]? = some oi) (hs : Region.noSelect ops = true) (hf : Region.free md ops ls i = true) (hr : (Region.ready md ops ls).contains i = true)
    (hQ : ∀ c a w, Q (.panic c) (a.put oi.dst v) w → Q (.panic c) a w) (hw : chained md ops m ks i = true) (hm : ((m :: ks).all fun k => !ls.getD k true) = true) (hmi : (i != m) = true) (hy : YieldsIf P ops S oi v a) (hS : S w)
    (h : tillH P md ops Q m S n (ls.setIfInBounds i true) (a.put oi.dst v) w) : tillH P md ops Q m S (n + 1) ls a w :=
  tillH_first (E := S) (J := fun L => undone L m ks i) hi (Region.noSelect_spec hs) hQ (by simpa using hmi) (fun L j hJ hj hji hiu => undone_step hj ks hw hJ) (fun L V hJ hiu hSV => hSV (undone_end ks hJ hiu)) n ls a w (Region.free_spec hi hf) (by simpa using hr) (undone_start ks hm) hy hS (fun _ => hS) h
end
end Go.Proofs.YtdeboajjhpecbaaDoor
