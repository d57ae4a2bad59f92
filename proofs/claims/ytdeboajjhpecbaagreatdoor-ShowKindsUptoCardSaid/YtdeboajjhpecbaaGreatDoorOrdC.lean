/- OrdC: several texts in one. -/
import Derived.OrdersHeld
import Derived.Deep.RegionHeld
/- A region in whatever order, with a condition on the world that is asked only as long as one operation of it (a store) has not come up. No function of the program in sight. -/
set_option linter.unusedVariables false
namespace Go.Proofs.YtdeboajjhpecbaaGreatDoor
open Go
section
variable {P : Program} {ops : Array Oper} {Q : Exit → Act → World → Prop} {md : Region.Mode}

/-- Whatever order is picked from here on; till number m has come up, S holds behind every operation. -/
def tillH (P : Program) (md : Region.Mode) (ops : Array Oper) (Q : Exit → Act → World → Prop) (m : Nat) (S : World → Prop) : Nat → Array Bool → Act → World → Prop
  | 0, ls, a, w => Region.ready md ops ls = [] ∧ Q .normal a w
  | n + 1, ls, a, w => (Region.ready md ops ls = [] → Q .normal a w) ∧ ∀ i ∈ Region.ready md ops ls, wpOp P ops Q i (fun b V => ((ls.setIfInBounds i true).getD m true = false → S V) ∧ tillH P md ops Q m S n (ls.setIfInBounds i true) b V) a w
theorem tillH_any {m : Nat} {S : World → Prop} : ∀ (n : Nat) (ls : Array Bool) (a : Act) (w : World), tillH P md ops Q m S n ls a w → wpAny P md ops Q n ls a w
  | 0, _, _, _, h => h
  | n + 1, _, _, _, h => ⟨h.1, fun i hi => wpOp_mono (fun b V g => tillH_any n _ b V g.2) (h.2 i hi)⟩
theorem listed_false {ls : Array Bool} {i : Nat} (h : ls.getD i true = false) (g : ls.getD i false = true) : False := by
  by_cases hi : i < ls.size <;> simp [hi] at h g
  rw [h] at g; cases g
/-- One that yields its value in each world that may come is taken first. -/
theorem tillH_first {m i : Nat} {S E : World → Prop} {J : Array Bool → Prop} {oi : Oper} {v : Value} (hi : ops[i]? = some oi) (hsel : ∀ (j : Nat) (o : Oper) cs b, ops[j]? = some o → o.op ≠ .select cs b) (hQ : ∀ c a w, Q (.panic c) (a.put oi.dst v) w → Q (.panic c) a w) (hmi : i ≠ m)
    (hJ : ∀ (ls : Array Bool) (j : Nat), J ls → j ∈ Region.ready md ops ls → j ≠ i → ls.getD i true = false → J (ls.setIfInBounds j true)) (hE : ∀ (ls : Array Bool) (V : World), J ls → ls.getD i true = false → (ls.getD m true = false → S V) → E V) (n : Nat) :
    ∀ (ls : Array Bool) (a : Act) (w : World), (∀ j oj, ops[j]? = some oj → j ≠ i → ls.getD j true = false → (∀ e ∈ oj.after, Region.binds md e = true → e.on ≠ i) → oi.apart ops oj = true) →
      i ∈ Region.ready md ops ls → J ls → YieldsIf P ops E oi v a → E w → (ls.getD m true = false → S w) → tillH P md ops Q m S n (ls.setIfInBounds i true) (a.put oi.dst v) w → tillH P md ops Q m S (n + 1) ls a w := by
  induction n with
  | zero =>
    intro ls a w _ hr _ hy hEw hSw H
    refine ⟨fun h => (by rw [h] at hr; cases hr), fun j hj => ?_⟩
    rcases Decidable.em (j = i) with rfl | hji
    · exact hy.wpOp hi hEw ⟨fun h => hSw (by rwa [getD_set_ne true hmi] at h), H⟩
    · have hj2 := ready_mono hj hji
      rw [H.1] at hj2; cases hj2
  | succ n ih =>
    intro ls a w hap hr hJl hy hEw hSw H
    refine ⟨fun h => (by rw [h] at hr; cases hr), fun j hj => ?_⟩
    rcases Decidable.em (j = i) with rfl | hji
    · exact hy.wpOp hi hEw ⟨fun h => hSw (by rwa [getD_set_ne true hmi] at h), H⟩
    · have hiu := (mem_ready.1 hr).1
      obtain ⟨hju, oj, hoj, hdeps⟩ := mem_ready.1 hj
      have hnot : ∀ e ∈ oj.after, Region.binds md e = true → e.on ≠ i := fun e he hb heq => listed_false hiu (heq ▸ hdeps e he hb)
      have hput := wpOp_putIf hoj (hap j oj hoj hji hju hnot) (fun cs b => hsel i oi cs b hi) (fun cs b => hsel j oj cs b hoj) hQ hy (H.2 j (ready_mono hj hji))
      have hiu2 : (ls.setIfInBounds j true).getD i true = false := by rw [getD_set_ne true hji]; exact hiu
      have hJ2 := hJ ls j hJl hj hji hiu
      refine wpOp_mono (fun b V g => ?_) hput
      have hS2 : (ls.setIfInBounds j true).getD m true = false → S V := fun hm => g.2.1 (by rw [Array.setIfInBounds_comm _ _ (Ne.symm hji), getD_set_ne true hmi]; exact hm)
      refine ⟨hS2, ih (ls.setIfInBounds j true) b V (fun k ok hk hki hku hno => hap k ok hk hki ?_ hno) (ready_mono hr (Ne.symm hji)) hJ2 g.1 (hE _ V hJ2 hiu2 hS2) hS2 ?_⟩
      · rcases Decidable.em (j = k) with rfl | hjk
        · exact hju
        · rwa [getD_set_ne true hjk] at hku
      · rw [Array.setIfInBounds_comm _ _ hji]; exact g.2.2
/-- Does number m wait for number i? -/
def waits (md : Region.Mode) (ops : Array Oper) (m i : Nat) : Bool := match ops[m]? with | some o => o.after.any (fun e => Region.binds md e && e.on == i) | none => false
theorem tillH_take {m i : Nat} {S : World → Prop} {oi : Oper} {v : Value} {n : Nat} {ls : Array Bool} {a : Act} {w : World} (hi : ops[i]? = some oi) (hs : Region.noSelect ops = true) (hf : Region.free md ops ls i = true) (hr : (Region.ready md ops ls).contains i = true)
    (hQ : ∀ c a w, Q (.panic c) (a.put oi.dst v) w → Q (.panic c) a w) (hw : waits md ops m i = true) (hm : ls.getD m true = false) (hmi : (i != m) = true) (hy : YieldsIf P ops S oi v a) (hS : S w)
    (h : tillH P md ops Q m S n (ls.setIfInBounds i true) (a.put oi.dst v) w) : tillH P md ops Q m S (n + 1) ls a w := by
  have hmi' : i ≠ m := by simpa using hmi
  refine tillH_first (E := S) (J := fun L => L.getD i true = false → L.getD m true = false) hi (Region.noSelect_spec hs) hQ hmi' (fun L j hJ hj hji hiu hiu2 => ?_) (fun L V hJ hiu hSV => hSV (hJ hiu)) n ls a w (Region.free_spec hi hf) (by simpa using hr) (fun _ => hm) hy hS (fun _ => hS) h
  rcases Decidable.em (j = m) with rfl | hjm
  · exfalso
    obtain ⟨_, o, ho, hdeps⟩ := mem_ready.1 hj
    simp only [waits, ho, Array.any_eq_true'] at hw
    obtain ⟨e, he, hb⟩ := hw
    rw [Bool.and_eq_true, beq_iff_eq] at hb
    exact listed_false hiu (hb.2 ▸ hdeps e he hb.1)
  · rw [getD_set_ne true hjm]; exact hJ hiu
/-- Number m waits for number k, which waits for number i. -/
theorem tillH_take2 (k : Nat) {m i : Nat} {S : World → Prop} {oi : Oper} {v : Value} {n : Nat} {ls : Array Bool} {a : Act} {w : World} (hi : ops[i]? = some oi) (hs : Region.noSelect ops = true) (hf : Region.free md ops ls i = true) (hr : (Region.ready md ops ls).contains i = true)
    (hQ : ∀ c a w, Q (.panic c) (a.put oi.dst v) w → Q (.panic c) a w) (hw : (waits md ops m k && waits md ops k i) = true) (hm : (!ls.getD m true && !ls.getD k true) = true) (hmi : (i != m && i != k && k != m) = true) (hy : YieldsIf P ops S oi v a) (hS : S w)
    (h : tillH P md ops Q m S n (ls.setIfInBounds i true) (a.put oi.dst v) w) : tillH P md ops Q m S (n + 1) ls a w := by
  simp only [Bool.and_eq_true, bne_iff_ne, ne_eq, Bool.not_eq_true'] at hw hm hmi
  obtain ⟨⟨hmi', hik⟩, hkm⟩ := hmi
  have dep : ∀ {a b j : Nat} {L : Array Bool}, waits md ops a b = true → a ∈ Region.ready md ops L → L.getD b true = false → False := by
    intro a b j L hw hj hb
    obtain ⟨_, o, ho, hdeps⟩ := mem_ready.1 hj
    simp only [waits, ho, Array.any_eq_true'] at hw
    obtain ⟨e, he, hb2⟩ := hw
    rw [Bool.and_eq_true, beq_iff_eq] at hb2
    exact listed_false hb (hb2.2 ▸ hdeps e he hb2.1)
  refine tillH_first (E := S) (J := fun L => L.getD i true = false → L.getD k true = false ∧ L.getD m true = false) hi (Region.noSelect_spec hs) hQ hmi' (fun L j hJ hj hji hiu hiu2 => ?_) (fun L V hJ hiu hSV => hSV (hJ hiu).2) n ls a w (Region.free_spec hi hf) (by simpa using hr) (fun _ => ⟨hm.2, hm.1⟩) hy hS (fun _ => hS) h
  rcases Decidable.em (j = k) with rfl | hjk
  · exact (dep (j := 0) hw.2 hj hiu).elim
  · rcases Decidable.em (j = m) with rfl | hjm
    · exact (dep (j := 0) hw.1 hj (hJ hiu).1).elim
    · rw [getD_set_ne true hjk, getD_set_ne true hjm]; exact hJ hiu
theorem tillH_takeAny {m i : Nat} {S : World → Prop} {oi : Oper} {v : Value} {n : Nat} {ls : Array Bool} {a : Act} {w : World} (hi : ops[i]? = some oi) (hs : Region.noSelect ops = true) (hf : Region.free md ops ls i = true) (hr : (Region.ready md ops ls).contains i = true)
    (hQ : ∀ c a w, Q (.panic c) (a.put oi.dst v) w → Q (.panic c) a w) (hmi : (i != m) = true) (hy : Yields P ops oi v a) (hS : ls.getD m true = false → S w)
    (h : tillH P md ops Q m S n (ls.setIfInBounds i true) (a.put oi.dst v) w) : tillH P md ops Q m S (n + 1) ls a w :=
  tillH_first (E := fun _ => True) (J := fun _ => True) hi (Region.noSelect_spec hs) hQ (by simpa using hmi) (fun _ _ _ _ _ _ => trivial) (fun _ _ _ _ _ => trivial) n ls a w (Region.free_spec hi hf) (by simpa using hr) trivial hy.yieldsIf trivial hS h
/-- Each of these comes up next. -/
def NextH (P : Program) (md : Region.Mode) (ops : Array Oper) (Q : Exit → Act → World → Prop) (m : Nat) (S : World → Prop) (n : Nat) (ls : Array Bool) (a : Act) (w : World) (rs : List Nat) : Prop :=
  ∀ i ∈ rs, wpOp P ops Q i (fun b V => ((ls.setIfInBounds i true).getD m true = false → S V) ∧ tillH P md ops Q m S n (ls.setIfInBounds i true) b V) a w
theorem NextH.nil {m : Nat} {S : World → Prop} {n : Nat} {ls : Array Bool} {a : Act} {w : World} : NextH P md ops Q m S n ls a w [] := fun _ h => by cases h
theorem NextH.cons {m i : Nat} {S : World → Prop} {n : Nat} {ls : Array Bool} {a : Act} {w : World} {o : Oper} {rs : List Nat} (ho : ops[i]? = some o)
    (h : ∀ K' : Act → World → Prop, Shut (∀ b V, ((ls.setIfInBounds i true).getD m true = false → S V) → tillH P md ops Q m S n (ls.setIfInBounds i true) b V → K' b V) → if Region.wanted o (yielded ops a.tmps) = true then Oper.wp P o a w K' Q else K' (a.put o.dst undef) w)
    (hs : NextH P md ops Q m S n ls a w rs) : NextH P md ops Q m S n ls a w (i :: rs) := fun j hj => by
  rcases List.mem_cons.1 hj with rfl | hj
  · exact wpOp_step ho (fun K' hK => h K' (fun b V h1 h2 => hK b V ⟨h1, h2⟩))
  · exact hs j hj
theorem tillH_next {m : Nat} {S : World → Prop} {rs : List Nat} {n : Nat} {ls : Array Bool} {a : Act} {w : World} (hr : Region.ready md ops ls = rs) (hne : rs ≠ []) (h : NextH P md ops Q m S n ls a w rs) : tillH P md ops Q m S (n + 1) ls a w :=
  ⟨fun h0 => absurd (hr ▸ h0) hne, hr ▸ h⟩
theorem tillH_done {m : Nat} {S : World → Prop} {ls : Array Bool} {a : Act} {w : World} (hr : Region.ready md ops ls = []) (h : Q .normal a w) : ∀ n, tillH P md ops Q m S n ls a w
  | 0 => ⟨hr, h⟩
  | _ + 1 => ⟨fun _ => h, by rw [hr]; simp⟩
theorem wp_region_till {m : Nat} {S : World → Prop} {id : Nat} {a : Act} {w : World} (hm : P.follows .mixedOrders = true)
    (h : tillH P .any ops Q m S ops.size (Array.replicate ops.size false) a w.drew) : (Code.region id ops true).wp P Q a w :=
  wp_region_any hm (tillH_any _ _ _ _ h)
end
end Go.Proofs.YtdeboajjhpecbaaGreatDoor

/- Drawn regions: what is taken first may be wanted through a chain of operations. -/
set_option linter.unusedVariables false
namespace Go.Proofs.YtdeboajjhpecbaaGreatDoor

section
variable {P : Program} {md : Region.Mode} {ops : Array Oper} {Q : Exit → Act → World → Prop}
/-- m waits for the first of the chain, .., its last for i. -/
def chained (md : Region.Mode) (ops : Array Oper) : Nat → List Nat → Nat → Bool
  | m, [], i => waits md ops m i
  | m, k :: ks, i => waits md ops m k && chained md ops k ks i
def undone (L : Array Bool) : Nat → List Nat → Nat → Prop
  | m, [], i => L.getD i true = false → L.getD m true = false
  | m, k :: ks, i => (L.getD k true = false → L.getD m true = false) ∧ undone L k ks i
theorem undone_end {L : Array Bool} : ∀ {m : Nat} (ks : List Nat) {i : Nat}, undone L m ks i → L.getD i true = false → L.getD m true = false
  | _, [], _, h, q => h q
  | _, _ :: ks, _, h, q => h.1 (undone_end ks h.2 q)
theorem undone_start {L : Array Bool} : ∀ {m : Nat} (ks : List Nat) {i : Nat}, (m :: ks).all (fun k => !L.getD k true) = true → undone L m ks i
  | _, [], _, h => fun _ => by simpa using h
  | _, k :: ks, _, h => by
    rw [List.all_cons, Bool.and_eq_true] at h
    exact ⟨fun _ => by simpa using h.1, undone_start ks h.2⟩
theorem set_undone {L : Array Bool} {j b : Nat} (h : (L.setIfInBounds j true).getD b true = false) : L.getD b true = false := by
  rcases Decidable.em (j = b) with rfl | e
  · by_cases hj : j < L.size
    · simp [hj] at h
    · simp [hj] at h
  · rwa [getD_set_ne true e] at h
theorem waits_dep {a b j : Nat} {L : Array Bool} (hw : waits md ops a b = true) (hj : a ∈ Region.ready md ops L) (hb : L.getD b true = false) : False := by
  obtain ⟨_, o, ho, hdeps⟩ := mem_ready.1 hj
  simp only [waits, ho, Array.any_eq_true'] at hw
  obtain ⟨e, he, hb2⟩ := hw
  rw [Bool.and_eq_true, beq_iff_eq] at hb2
  exact listed_false hb (hb2.2 ▸ hdeps e he hb2.1)
theorem pair_step {a b j : Nat} {L : Array Bool} (hw : waits md ops a b = true) (hj : j ∈ Region.ready md ops L) (h : L.getD b true = false → L.getD a true = false) : (L.setIfInBounds j true).getD b true = false → (L.setIfInBounds j true).getD a true = false := fun q => by
  have hb := set_undone q
  rcases Decidable.em (j = a) with rfl | e
  · exact (waits_dep (j := 0) hw hj hb).elim
  · rw [getD_set_ne true e]; exact h hb
theorem undone_step {j : Nat} {L : Array Bool} (hj : j ∈ Region.ready md ops L) : ∀ {m : Nat} (ks : List Nat) {i : Nat}, chained md ops m ks i = true → undone L m ks i → undone (L.setIfInBounds j true) m ks i
  | _, [], _, hc, h => pair_step hc hj h
  | _, k :: ks, _, hc, h => by
    rw [chained, Bool.and_eq_true] at hc
    exact ⟨pair_step hc.1 hj h.1, undone_step hj ks hc.2 h.2⟩
theorem tillH_takeC (ks : List Nat) {m i : Nat} {S : World → Prop} {oi : Oper} {v : Value} {n : Nat} {ls : Array Bool} {a : Act} {w : World} (hi : ops[i]? = some oi) (hs : Region.noSelect ops = true) (hf : Region.free md ops ls i = true) (hr : (Region.ready md ops ls).contains i = true)
    (hQ : ∀ c a w, Q (.panic c) (a.put oi.dst v) w → Q (.panic c) a w) (hw : chained md ops m ks i = true) (hm : ((m :: ks).all fun k => !ls.getD k true) = true) (hmi : (i != m) = true) (hy : YieldsIf P ops S oi v a) (hS : S w)
    (h : tillH P md ops Q m S n (ls.setIfInBounds i true) (a.put oi.dst v) w) : tillH P md ops Q m S (n + 1) ls a w :=
  tillH_first (E := S) (J := fun L => undone L m ks i) hi (Region.noSelect_spec hs) hQ (by simpa using hmi) (fun L j hJ hj hji hiu => undone_step hj ks hw hJ) (fun L V hJ hiu hSV => hSV (undone_end ks hJ hiu)) n ls a w (Region.free_spec hi hf) (by simpa using hr) (undone_start ks hm) hy hS (fun _ => hS) h
end
end Go.Proofs.YtdeboajjhpecbaaGreatDoor
