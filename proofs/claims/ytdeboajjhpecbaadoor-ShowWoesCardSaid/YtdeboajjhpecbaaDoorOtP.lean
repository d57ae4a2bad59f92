/- Tables: the plain part. -/
import Derived.Test.YtdeboajjhpecbaaDoorOtA
set_option linter.unusedVariables false
set_option linter.unusedSimpArgs false
namespace Go.Proofs.YtdeboajjhpecbaaDoor

/-- A value: kind, number, units. -/
abbrev K3 := Int × Int × ByteArray
def norm (v : K3) : K3 := (kK v.1, kN v.1 v.2.1, kS v.1 v.2.2)
theorem norm_norm (v : K3) : norm (norm v) = norm v := by
  obtain ⟨k, n, s⟩ := v
  unfold norm kK kN kS
  by_cases h : (k == 6) = true
  · simp [h]
  · have : k ≠ 6 := by simpa using h
    simp [this]
/-- A key's hash. -/
def hs (v : K3) : Nat := (hG v.1 v.2.1 v.2.2 v.2.2.size).toNat

structure Ent where
  key : K3
  val : K3
  flags : Int
  grave : Bool

def isKey (k : K3) (e : Ent) : Bool := !e.grave && decide (norm e.key = norm k)
def grave0 : Ent := ⟨(0, 0, ⟨#[]⟩), (0, 0, ⟨#[]⟩), 0, true⟩

/-- The slot that a key comes to with so many steps. -/
def pr (n h d : Nat) : Nat := (h + d) % n
theorem pr_lt {n : Nat} (h d : Nat) (hn : 0 < n) : pr n h d < n := Nat.mod_lt _ hn
theorem pr_eq {n h d : Nat} (hd : d < n) : pr n h d = if h % n + d < n then h % n + d else h % n + d - n := by
  have h1 : h % n < n := Nat.mod_lt _ (by omega)
  unfold pr
  rw [← Nat.mod_add_mod]
  split
  · rename_i h2; exact Nat.mod_eq_of_lt h2
  · rename_i h2; rw [Nat.mod_eq_sub_mod (by omega), Nat.mod_eq_of_lt (by omega)]
theorem pr_all {n : Nat} (h s : Nat) (hs : s < n) : ∃ d, d < n ∧ pr n h d = s := by
  have h1 : h % n < n := Nat.mod_lt _ (by omega)
  rcases Nat.lt_or_ge s (h % n) with h2 | h2
  · refine ⟨s + n - h % n, by omega, ?_⟩
    rw [pr_eq (by omega)]; split <;> omega
  · refine ⟨s - h % n, by omega, ?_⟩
    rw [pr_eq (by omega)]; split <;> omega
theorem pr_back {n h d : Nat} (hd : d < n) : (pr n h d + n - h % n) % n = d := by
  have h1 : h % n < n := Nat.mod_lt _ (by omega)
  rw [pr_eq hd]
  split
  · rw [show h % n + d + n - h % n = d + n by omega, Nat.add_mod_right, Nat.mod_eq_of_lt hd]
  · rw [show h % n + d - n + n - h % n = d by omega, Nat.mod_eq_of_lt hd]
theorem pr_succ {n : Nat} (h d : Nat) : pr n h (d + 1) = (pr n h d + 1) % n := by
  unfold pr; rw [Nat.mod_add_mod, Nat.add_assoc]
theorem pr_inj {n : Nat} {h d d' : Nat} (hd : d < n) (hd' : d' < n) (e : pr n h d = pr n h d') : d = d' := by
  have h1 : h % n < n := Nat.mod_lt _ (by omega)
  rw [pr_eq hd, pr_eq hd'] at e
  split at e <;> split at e <;> omega

/-- Slots that serve entries. -/
structure Core (es : List Ent) (sl : List Nat) : Prop where
  inr : ∀ s i, sl.getD s 0 = i + 1 → i < es.length
  cnt : (sl.filter (· != 0)).length ≤ es.length
  probe : ∀ (i : Nat) (e : Ent), es[i]? = some e → e.grave = false → ∃ d, d < sl.length ∧ sl.getD (pr sl.length (hs e.key) d) 0 = i + 1 ∧ ∀ d', d' < d → sl.getD (pr sl.length (hs e.key) d') 0 ≠ 0
  keys : ∀ (i : Nat) (e : Ent), es[i]? = some e → e.grave = false → norm e.key = e.key
  dist : ∀ (i j : Nat) (e f : Ent), es[i]? = some e → es[j]? = some f → e.grave = false → f.grave = false → e.key = f.key → i = j

theorem getD_none {sl : List Nat} {s : Nat} (h : sl.length ≤ s) : sl.getD s 0 = 0 := by
  rw [List.getD_eq_getElem?_getD, List.getElem?_eq_none h]; rfl
theorem getD_set (sl : List Nat) (s x j : Nat) (h : s < sl.length) : (sl.set s x).getD j 0 = if j = s then x else sl.getD j 0 := by
  simp only [List.getD_eq_getElem?_getD, List.getElem?_set]
  by_cases e : s = j
  · subst e; simp [h]
  · rw [if_neg e, if_neg (fun e' => e e'.symm)]

theorem filter_lt {sl : List Nat} (h : (sl.filter (· != 0)).length < sl.length) : ∃ s, s < sl.length ∧ sl.getD s 0 = 0 := by
  induction sl with
  | nil => simp at h
  | cons x l ih =>
    by_cases hx : x = 0
    · exact ⟨0, by simp, by simp [hx]⟩
    · have hb : (x != 0) = true := by simpa using hx
      rw [List.filter_cons, if_pos hb, List.length_cons, List.length_cons] at h
      obtain ⟨s, h1, h2⟩ := ih (by omega)
      exact ⟨s + 1, by simp; omega, by simpa using h2⟩
theorem filter_set {sl : List Nat} {s x : Nat} (h : s < sl.length) (h0 : sl.getD s 0 = 0) : ((sl.set s x).filter (· != 0)).length ≤ (sl.filter (· != 0)).length + 1 := by
  induction sl generalizing s with
  | nil => simp at h
  | cons y l ih =>
    cases s with
    | zero =>
      simp at h0
      subst h0
      simp only [List.set_cons_zero, List.filter_cons]
      split
      · simp
      · simp
    | succ s =>
      simp only [List.set_cons_succ, List.filter_cons]
      have := ih (s := s) (by simpa using h) (by simpa using h0)
      split
      · simp only [List.length_cons]; omega
      · exact this

/-- There is a free slot on a key's way. -/
theorem Core.free {es : List Ent} {sl : List Nat} (c : Core es sl) (h : es.length < sl.length) (k : Nat) : ∃ d, d < sl.length ∧ sl.getD (pr sl.length k d) 0 = 0 := by
  obtain ⟨s, h1, h2⟩ := filter_lt (sl := sl) (Nat.lt_of_le_of_lt c.cnt h)
  obtain ⟨d, h3, h4⟩ := pr_all k s h1
  exact ⟨d, h3, by rw [h4]; exact h2⟩

/-- What find comes to. -/
inductive FindR (es : List Ent) (sl : List Nat) (k : K3) : Int → Nat → Prop
  | none0 : sl.length = 0 → FindR es sl k (-1) 0
  | none (d : Nat) : d < sl.length → sl.getD (pr sl.length (hs (norm k)) d) 0 = 0 → (∀ d', d' < d → sl.getD (pr sl.length (hs (norm k)) d') 0 ≠ 0) → (∀ (i : Nat) (e : Ent), es[i]? = some e → isKey k e = false) → FindR es sl k (-1) (pr sl.length (hs (norm k)) d)
  | some (s : Nat) (i : Nat) (e : Ent) : es[i]? = some e → isKey k e = true → FindR es sl k (i : Int) s

theorem Core.nokey {es : List Ent} {sl : List Nat} (c : Core es sl) {k : K3} {d : Nat} (hd : d < sl.length) (h0 : sl.getD (pr sl.length (hs (norm k)) d) 0 = 0)
    (hn : ∀ d', d' < d → ∀ (i : Nat) (e : Ent), sl.getD (pr sl.length (hs (norm k)) d') 0 = i + 1 → es[i]? = some e → isKey k e = false) : ∀ (i : Nat) (e : Ent), es[i]? = some e → isKey k e = false := by
  intro i e he
  cases hk : isKey k e with
  | false => rfl
  | true =>
    exfalso
    simp only [isKey, Bool.and_eq_true, Bool.not_eq_true', decide_eq_true_eq] at hk
    obtain ⟨d1, h1, h2, h3⟩ := c.probe i e he hk.1
    rw [← c.keys i e he hk.1, hk.2] at h2 h3
    rcases Nat.lt_trichotomy d1 d with h | h | h
    · have := hn d1 h i e h2 he
      simp [isKey, hk.1, hk.2] at this
    · subst h; omega
    · exact h3 d h h0

/-- An entry more. -/
theorem Core.add {es : List Ent} {sl : List Nat} (c : Core es sl) (e : Ent) (hg : e.grave = false) (hk : norm e.key = e.key) (hne : ∀ (i : Nat) (f : Ent), es[i]? = some f → f.grave = false → f.key ≠ e.key)
    {d : Nat} (hd : d < sl.length) (h0 : sl.getD (pr sl.length (hs e.key) d) 0 = 0) (hb : ∀ d', d' < d → sl.getD (pr sl.length (hs e.key) d') 0 ≠ 0) :
    Core (es ++ [e]) (sl.set (pr sl.length (hs e.key) d) (es.length + 1)) := by
  have hs0 : pr sl.length (hs e.key) d < sl.length := pr_lt _ _ (by omega)
  have hlast : ∀ i f, (es ++ [e])[i]? = some f → (i < es.length ∧ es[i]? = some f) ∨ (i = es.length ∧ f = e) := by
    intro i f hf
    rcases Nat.lt_or_ge i es.length with h | h
    · rw [List.getElem?_append_left h] at hf; exact .inl ⟨h, hf⟩
    · rw [List.getElem?_append_right h] at hf
      have : i - es.length = 0 := by
        rcases Nat.eq_zero_or_pos (i - es.length) with h' | h'
        · exact h'
        · rw [List.getElem?_eq_none (by simp; omega)] at hf; cases hf
      rw [this] at hf
      simp at hf
      exact .inr ⟨by omega, hf.symm⟩
  refine ⟨fun s i hi => ?_, ?_, fun i f hf hfg => ?_, fun i f hf hfg => ?_, fun i j f g hf hg' hfg hgg hfk => ?_⟩
  · rw [getD_set _ _ _ _ hs0] at hi
    rw [List.length_append]
    split at hi
    · simp; omega
    · have := c.inr s i hi; simp; omega
  · rw [List.length_append]
    have := filter_set (x := es.length + 1) hs0 h0
    have := c.cnt
    simp; omega
  · rw [List.length_set]
    rcases hlast i f hf with ⟨h1, h2⟩ | ⟨rfl, rfl⟩
    · obtain ⟨d1, g1, g2, g3⟩ := c.probe i f h2 hfg
      refine ⟨d1, g1, ?_, fun d' hd' => ?_⟩
      · rw [getD_set _ _ _ _ hs0, if_neg (fun e' => by rw [e', h0] at g2; omega)]; exact g2
      · rw [getD_set _ _ _ _ hs0]
        split
        · omega
        · exact g3 d' hd'
    · refine ⟨d, hd, by rw [getD_set _ _ _ _ hs0, if_pos rfl], fun d' hd' => ?_⟩
      rw [getD_set _ _ _ _ hs0]
      split
      · omega
      · exact hb d' hd'
  · rcases hlast i f hf with ⟨h1, h2⟩ | ⟨rfl, rfl⟩
    · exact c.keys i f h2 hfg
    · exact hk
  · rcases hlast i f hf with ⟨h1, h2⟩ | ⟨rfl, rfl⟩ <;> rcases hlast j g hg' with ⟨h3, h4⟩ | ⟨rfl, rfl⟩
    · exact c.dist i j f g h2 h4 hfg hgg hfk
    · exact absurd hfk (hne i f h2 hfg)
    · exact absurd hfk.symm (hne j g h4 hgg)
    · rfl

/-- An entry anew at its place, with its key. -/
theorem Core.put {es : List Ent} {sl : List Nat} (c : Core es sl) (j : Nat) (e f : Ent) (he : es[j]? = some e) (hf : f.key = e.key) (hg : f.grave = false → e.grave = false) : Core (es.set j f) sl := by
  have hj : j < es.length := (List.getElem?_eq_some_iff.1 he).1
  have hget : ∀ i g, (es.set j f)[i]? = some g → (i = j ∧ g = f) ∨ (i ≠ j ∧ es[i]? = some g) := by
    intro i g h
    rw [List.getElem?_set] at h
    split at h
    · rename_i h'; exact .inl ⟨h'.symm, by first | exact (Option.some.inj h).symm | (rw [if_pos (by omega)] at h; exact (Option.some.inj h).symm)⟩
    · rename_i h'; exact .inr ⟨fun e => h' e.symm, h⟩
  refine ⟨fun s i hi => by rw [List.length_set]; exact c.inr s i hi, by rw [List.length_set]; exact c.cnt, fun i g h hgg => ?_, fun i g h hgg => ?_, fun i k g g' h h' hgg hgg' hk => ?_⟩
  · rcases hget i g h with ⟨rfl, rfl⟩ | ⟨_, h2⟩
    · rw [hf]; exact c.probe i e he (hg hgg)
    · exact c.probe i g h2 hgg
  · rcases hget i g h with ⟨rfl, rfl⟩ | ⟨_, h2⟩
    · rw [hf]; exact c.keys i e he (hg hgg)
    · exact c.keys i g h2 hgg
  · rcases hget i g h with ⟨rfl, rfl⟩ | ⟨_, h2⟩ <;> rcases hget k g' h' with ⟨rfl, rfl⟩ | ⟨_, h4⟩
    · rfl
    · exact c.dist _ _ _ _ he h4 (hg hgg) hgg' (by rw [← hf]; exact hk)
    · exact c.dist _ _ _ _ h2 he hgg (hg hgg') (by rw [hk, hf])
    · exact c.dist _ _ _ _ h2 h4 hgg hgg' hk
/-- An entry that is gone. -/
theorem Core.del {es : List Ent} {sl : List Nat} (c : Core es sl) (j : Nat) (f : Ent) (hf : f.grave = true) : Core (es.set j f) sl := by
  have hget : ∀ (i : Nat) (g : Ent), (es.set j f)[i]? = some g → g.grave = false → es[i]? = some g := by
    intro i g h hg
    rw [List.getElem?_set] at h
    split at h
    · split at h
      · rw [← Option.some.inj h, hf] at hg; cases hg
      · cases h
    · exact h
  exact ⟨fun s i hi => by rw [List.length_set]; exact c.inr s i hi, by rw [List.length_set]; exact c.cnt, fun i g h hg => c.probe i g (hget i g h hg) hg, fun i g h hg => c.keys i g (hget i g h hg) hg,
    fun i k g g' h h' hg hg' hk => c.dist i k g g' (hget i g h hg) (hget k g' h' hg') hg hg' hk⟩

theorem Core.nil (n : Nat) : Core [] (List.replicate n 0) := by
  have h0 : ∀ s, (List.replicate n 0).getD s 0 = 0 := fun s => by
    rw [List.getD_eq_getElem?_getD, List.getElem?_replicate]; split <;> rfl
  refine ⟨fun s i h => (by rw [h0] at h; omega), ?_, fun i e h => by simp at h, fun i e h => by simp at h, fun i j e f h => by simp at h⟩
  rw [List.filter_replicate]; simp

/-! ### What is there -/
def cp (l : List Ent) : List Ent := l.filter (fun e => !e.grave)
theorem cp_append (l m : List Ent) : cp (l ++ m) = cp l ++ cp m := List.filter_append ..
/-- How many are there ahead of a place. -/
def cnt (l : List Ent) (at_ : Nat) : Nat := (cp (l.take at_)).length
theorem cp_take (l : List Ent) (a : Nat) : cp (l.take a) = (cp l).take (cnt l a) := by
  have h : cp l = cp (l.take a) ++ cp (l.drop a) := by rw [← cp_append, List.take_append_drop]
  rw [h, cnt, List.take_left']
  rfl
theorem cnt_le (l : List Ent) (a : Nat) : cnt l a ≤ (cp l).length := by
  have h : cp l = cp (l.take a) ++ cp (l.drop a) := by rw [← cp_append, List.take_append_drop]
  rw [h, List.length_append]; unfold cnt; omega

theorem mem_cp {l : List Ent} {e : Ent} (h : e ∈ cp l) : e ∈ l ∧ e.grave = false := by
  have := List.mem_filter.1 h
  exact ⟨this.1, by simpa using this.2⟩
theorem dist_cp {l : List Ent} (h : ∀ (i j : Nat) (e f : Ent), l[i]? = some e → l[j]? = some f → e.grave = false → f.grave = false → e.key = f.key → i = j) : (cp l).Pairwise (fun a b => a.key ≠ b.key) := by
  have h1 : l.Pairwise (fun a b => a.grave = false → b.grave = false → a.key ≠ b.key) := by
    rw [List.pairwise_iff_getElem]
    intro i j hi hj hij ha hb e
    have := h i j _ _ (List.getElem?_eq_getElem hi) (List.getElem?_eq_getElem hj) ha hb e
    omega
  have h2 := h1.filter (fun e => !e.grave)
  rw [List.pairwise_iff_getElem] at h2 ⊢
  intro i j hi hj hij
  exact h2 i j hi hj hij (mem_cp (List.getElem_mem hi)).2 (mem_cp (List.getElem_mem hj)).2

def updE (k v : K3) (f : Int) (e : Ent) : Ent := if isKey k e then { e with val := v, flags := f } else e
theorem updE_grave (k v : K3) (f : Int) (e : Ent) : (updE k v f e).grave = e.grave := by unfold updE; split <;> rfl
theorem cp_upd (k v : K3) (f : Int) (l : List Ent) : cp (l.map (updE k v f)) = (cp l).map (updE k v f) := by
  induction l with
  | nil => rfl
  | cons e l ih =>
    simp only [cp, List.map_cons, List.filter_cons, updE_grave] at ih ⊢
    split
    · rw [List.map_cons, ih]
    · exact ih
/-- Keys that are there are unlike. -/
def Dist (l : List Ent) : Prop := ∀ (i j : Nat) (e f : Ent), l[i]? = some e → l[j]? = some f → e.grave = false → f.grave = false → norm e.key = norm f.key → i = j
theorem Core.dst {es : List Ent} {sl : List Nat} (c : Core es sl) : Dist es := fun i j e f h h' hg hg' hk => c.dist i j e f h h' hg hg' (by rw [← c.keys i e h hg, ← c.keys j f h' hg', hk])
theorem isKey_true {k : K3} {e : Ent} : isKey k e = true ↔ e.grave = false ∧ norm e.key = norm k := by simp [isKey]
theorem set_upd {l : List Ent} (hd : Dist l) (k v : K3) (f : Int) (j : Nat) (e : Ent) (he : l[j]? = some e) (hk : isKey k e = true) : l.set j { e with val := v, flags := f } = l.map (updE k v f) := by
  apply List.ext_getElem?
  intro i
  rw [List.getElem?_set, List.getElem?_map]
  have hj : j < l.length := (List.getElem?_eq_some_iff.1 he).1
  split
  · rename_i h; subst h
    rw [he]; simp [updE, hk, hj]
  · rename_i h
    cases hi : l[i]? with
    | none => rfl
    | some g =>
      have hg : isKey k g = false := by
        cases hg : isKey k g with
        | false => rfl
        | true =>
          rw [isKey_true] at hk hg
          exact absurd (hd j i e g he hi hk.1 hg.1 (by rw [hk.2, hg.2])) h
      simp [updE, hg]
theorem cp_del {l : List Ent} (hd : Dist l) (k : K3) (j : Nat) (e g : Ent) (he : l[j]? = some e) (hk : isKey k e = true) (hg : g.grave = true) (a : Nat) :
    cp ((l.set j g).take a) = (cp (l.take a)).filter (fun e => !isKey k e) := by
  have h1 : ∀ (l : List Ent), Dist l → (∀ (j : Nat) (e : Ent), l[j]? = some e → isKey k e = true → cp (l.set j g) = (cp l).filter (fun e => !isKey k e)) ∧ ((∀ (i : Nat) (e : Ent), l[i]? = some e → isKey k e = false) → (cp l).filter (fun e => !isKey k e) = cp l) := by
    intro l hd
    refine ⟨?_, fun h => ?_⟩
    · induction l with
      | nil => intro j e h; simp at h
      | cons x l ih =>
        have hd' : Dist l := fun i j e f h h' a b c => by
          have := hd (i + 1) (j + 1) e f (by simpa using h) (by simpa using h') a b c
          omega
        intro j e he hk
        cases j with
        | zero =>
          simp at he; subst he
          have hx := (isKey_true.1 hk)
          have hno : ∀ i f, l[i]? = some f → isKey k f = false := fun i f hf => by
            cases h : isKey k f with
            | false => rfl
            | true =>
              have h' := isKey_true.1 h
              have := hd 0 (i + 1) x f rfl (by simpa using hf) hx.1 h'.1 (by rw [hx.2, h'.2])
              omega
          have hl : (cp l).filter (fun e => !isKey k e) = cp l := by
            rw [List.filter_eq_self]
            intro f hf
            have hf' := List.mem_filter.1 hf
            obtain ⟨i, hi⟩ := List.getElem?_of_mem hf'.1
            simp [hno i f hi]
          simp only [List.set_cons_zero, cp, List.filter_cons, hg, hx.1] at hl ⊢
          simp only [Bool.not_true, Bool.false_eq_true, if_false, Bool.not_false, if_true, List.filter_cons, hk]
          exact hl.symm
        | succ j =>
          have hx : isKey k x = false := by
            cases h : isKey k x with
            | false => rfl
            | true =>
              have h' := isKey_true.1 h
              have h2 := isKey_true.1 hk
              have := hd 0 (j + 1) x e rfl he h'.1 h2.1 (by rw [h'.2, h2.2])
              omega
          have := ih hd' j e (by simpa using he) hk
          simp only [List.set_cons_succ, cp, List.filter_cons] at this ⊢
          split
          · rw [List.filter_cons, if_pos (by simp [hx]), this]
          · exact this
    · rw [List.filter_eq_self]
      intro f hf
      have hf' := List.mem_filter.1 hf
      obtain ⟨i, hi⟩ := List.getElem?_of_mem hf'.1
      simp [h i f hi]
  have hda : Dist (l.take a) := fun i j e f h h' => by
    rw [List.getElem?_take] at h h'
    split at h
    · split at h'
      · exact hd i j e f h h'
      · cases h'
    · cases h
  rw [List.take_set]
  rcases Nat.lt_or_ge j a with h | h
  · exact (h1 _ hda).1 j e (by rw [List.getElem?_take, if_pos h]; exact he) hk
  · rw [List.set_eq_of_length_le (by rw [List.length_take]; omega)]
    refine ((h1 _ hda).2 fun i f hf => ?_).symm
    rw [List.getElem?_take] at hf
    split at hf
    · rename_i hi
      cases hb : isKey k f with
      | false => rfl
      | true =>
        have h' := isKey_true.1 hb
        have h2 := isKey_true.1 hk
        have := hd j i e f he hf h2.1 h'.1 (by rw [h'.2, h2.2])
        omega
    · cases hf

end Go.Proofs.YtdeboajjhpecbaaDoor
