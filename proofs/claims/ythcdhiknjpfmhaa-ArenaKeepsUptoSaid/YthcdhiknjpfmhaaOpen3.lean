/- How an argument that is a slice of arrays of integers reads. -/
import Derived.WalkKit
import Derived.ProofKit
import Derived.OpenShut
import Derived.Deep.Slices
import Derived.ChangeSame
import Derived.Below
namespace Go.Proofs.Ythcdhiknjpfmhaa
open Go.ChangeShapes Go.WideShapes Go.ChangeAt Go.RowKit Go.Deep
section
variable {H : Type} {enc : TypeId × Value → H} {P : Program} {w : World} {base : Nat} {held : Bool}

theorem trod_ints_arr {n : Nat} {t e : TypeId} {k : IntKind} {fuel : Nat} {cs : List Value} {x : DataW H × List MemPlace} {spare : Nat → Bool} (ht : P.underlying t = some (.array n e)) (he : P.underlying e = some (.int k)) (hce : P.cellsOf e = 1)
    (h : DataW.trod enc P w base spare held fuel t cs = some x) (i : Nat) (hi : i < n) : ∃ z, cs[i]? = some (.int k z) ∧ (Lit.int k z).wf = true := by
  obtain ⟨xs, m, _, _, _, hl, hf⟩ := DataW.trod_array ht h
  have h1 := hf i hi
  rw [List.getElem?_eq_getElem (by omega)] at h1
  obtain ⟨z, hz, _, hw⟩ := DataW.trod_int he h1
  rw [hce, Nat.mul_one] at hz
  refine ⟨z, ?_, hw⟩
  have h2 : ((cs.drop i).take 1)[0]? = some (.int k z) := by rw [hz]; rfl
  rw [List.getElem?_take, if_pos (by decide), List.getElem?_drop] at h2
  exact h2

/-- What came in as a row of arrays of M numbers, all the numbers one behind the other. -/
def IsRows (k : IntKind) (w : World) (a : Option Addr) (len cap M : Nat) (zs : List Int) : Prop :=
  (a = none ∧ len = 0 ∧ cap = 0 ∧ zs = []) ∨
  ∃ x, a = some x ∧ len ≤ cap ∧ cap ≤ maxLen ∧ zs.length = cap * M ∧ (∀ i, i < zs.length → w.cell? (x.add i) = some (.int k (zs.getD i 0))) ∧ ∀ i, i < zs.length → (Lit.int k (zs.getD i 0)).wf = true

theorem open_rows {t e f : TypeId} {M : Nat} {k : IntKind} {fuel : Nat} {cs : List Value} {x : DataW H × List MemPlace} (ht : P.underlying t = some (.slice e)) (he : P.underlying e = some (.array M f)) (hf : P.underlying f = some (.int k))
    (hce : P.cellsOf e = M) (hcf : P.cellsOf f = 1) (hM : 0 < M) (h : DataW.trod enc P w base (fun _ => true) held fuel t cs = some x) :
    ∃ a len cap zs, cs = [.slice a len cap] ∧ IsRows k w a len cap M zs := by
  rcases open_slice ht h with ⟨rfl, _⟩ | ⟨a, len, cap, m, n, D, Pl, rfl, _, hl, hm, hmm, _, hi⟩
  · exact ⟨none, 0, 0, [], rfl, .inl ⟨rfl, rfl, rfl, rfl⟩⟩
  · simp only [if_true] at hmm
    subst hmm
    rw [hce] at hi
    have key : ∀ p, p < m * M → ∃ z, w.cell? (a.add p) = some (.int k z) ∧ (Lit.int k z).wf = true := by
      intro p hp
      have hq : p / M < m := Nat.div_lt_of_lt_mul (by rw [Nat.mul_comm]; exact hp)
      obtain ⟨cs', hc, ht'⟩ := hi (p / M) hq
      obtain ⟨_, hlen, hat⟩ := World.cells?_some hc
      obtain ⟨z, hz, wz⟩ := trod_ints_arr he hf hcf ht' (p % M) (Nat.mod_lt _ hM)
      refine ⟨z, ?_, wz⟩
      have h1 := hat (p % M) (Nat.mod_lt _ hM)
      rw [Go.Deep.add_add] at h1
      rw [show p = p / M * M + p % M by rw [Nat.mul_comm]; exact (Nat.div_add_mod p M).symm, h1]
      exact hz
    refine ⟨some a, len, m, (List.range (m * M)).map fun p => if h : p < m * M then Classical.choose (key p h) else 0, rfl, .inr ⟨a, rfl, hl, hm, by simp, ?_, ?_⟩⟩
    · intro i hi2
      have hi3 : i < m * M := by simpa using hi2
      rw [(Classical.choose_spec (key i hi3)).1]
      simp [List.getD_eq_getElem?_getD, hi3]
    · intro i hi2
      have hi3 : i < m * M := by simpa using hi2
      have := (Classical.choose_spec (key i hi3)).2
      simpa [List.getD_eq_getElem?_getD, hi3] using this
end

/-- Triples as a slice has them. -/
def TripR (w : World) (a : Option Addr) (n : Nat) (l : List (Int × Int × Int)) : Prop :=
  l.length = n ∧ (0 < n → ∃ b off, a = some ⟨b, off, none⟩ ∧ b < w.heap.size ∧ ∀ k, k < n → w.cell? ⟨b, off + k * 3, none⟩ = some (.int .i64 (l.getD k (0, 0, 0)).1) ∧ w.cell? ⟨b, off + k * 3 + 1, none⟩ = some (.int .i64 (l.getD k (0, 0, 0)).2.1) ∧ w.cell? ⟨b, off + k * 3 + 2, none⟩ = some (.int .i64 (l.getD k (0, 0, 0)).2.2))
theorem tripR_in {w : World} {a : Option Addr} {len cap : Nat} {zs : List Int} (h : IsRows .i64 w a len cap 3 zs) : len ≤ maxLen ∧ ∃ l, TripR w a len l := by
  rcases h with ⟨rfl, rfl, rfl, rfl⟩ | ⟨x, rfl, hl, hm, hz, hc, hw⟩
  · exact ⟨Nat.zero_le _, [], rfl, fun h => absurd h (by decide)⟩
  · refine ⟨Nat.le_trans hl hm, (List.range len).map fun i => (zs.getD (i * 3) 0, zs.getD (i * 3 + 1) 0, zs.getD (i * 3 + 2) 0), by simp, fun hn => ?_⟩
    obtain ⟨b, off, rfl, hc'⟩ := ints_at hc (by omega)
    refine ⟨b, off, rfl, World.block_lt_of_cell? w ⟨b, off + 0, none⟩ (hc' 0 (by omega)), fun k hk => ?_⟩
    have e : ((List.range len).map fun i => (zs.getD (i * 3) 0, zs.getD (i * 3 + 1) 0, zs.getD (i * 3 + 2) 0)).getD k (0, 0, 0) = (zs.getD (k * 3) 0, zs.getD (k * 3 + 1) 0, zs.getD (k * 3 + 2) 0) := by
      simp [List.getD_eq_getElem?_getD, hk]
    rw [e]
    exact ⟨hc' (k * 3) (by omega), by rw [Nat.add_assoc]; exact hc' (k * 3 + 1) (by omega), by rw [Nat.add_assoc]; exact hc' (k * 3 + 2) (by omega)⟩
theorem TripR.below {w W : World} {a : Option Addr} {n : Nat} {l : List (Int × Int × Int)} (h : TripR w a n l) (b : Below w.heap.size w W) : TripR W a n l :=
  ⟨h.1, fun hn => by
    obtain ⟨g, off, e, hg, hc⟩ := h.2 hn
    exact ⟨g, off, e, Nat.lt_of_lt_of_le hg b.size, fun k hk => ⟨(b.cell (p := ⟨g, off + k * 3, none⟩) hg).trans (hc k hk).1, (b.cell (p := ⟨g, off + k * 3 + 1, none⟩) hg).trans (hc k hk).2.1, (b.cell (p := ⟨g, off + k * 3 + 2, none⟩) hg).trans (hc k hk).2.2⟩⟩⟩
end Go.Proofs.Ythcdhiknjpfmhaa
