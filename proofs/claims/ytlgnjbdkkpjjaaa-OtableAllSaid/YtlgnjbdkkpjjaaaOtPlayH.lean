/- What the law's play comes to. -/
import Derived.Test.YtlgnjbdkkpjjaaaOtV
import Derived.Deep.RegionHeld3
set_option linter.unusedVariables false
set_option linter.unusedSimpArgs false
namespace Go.Proofs.Ytlgnjbdkkpjjaaa
open Go.RowKit Go.Sort

/-- The call's key and value in boxes. -/
structure PB (w W : World) (g h : Nat) (k : K3) (vn : Int) (c : CallV) : Prop where
  bel : Below w.heap.size w W
  kg : Blk W g 27 #[.int .i64 k.1, .int .i64 k.2.1, .string k.2.2]
  kh : Blk W h 27 #[.int .i64 3, .int .i64 vn, .string ⟨#[]⟩]
  kc : Blk W w.heap.size 59 (CallC c)
  hg : w.heap.size ≤ g
  hh : w.heap.size ≤ h
theorem Bx.drew' {w : World} {U : Nat → Prop} {g : Nat} {t : TypeId} {cs : Array Value} (h : Bx w U g t cs) : Bx w.drew U g t cs := ⟨h.blk.drew, h.no⟩
theorem Mem.drew' {w0 w : World} {B T M : Nat} {A : List Ent} {D : List (Nat × Nat)} {O : Nat → Prop} {L : List Ent} {cl : Nat} {R : Nat → Prop} {lv cv dv : Value} {X : List Cu} (h : Mem w0 w B T M A D O L cl R lv cv dv X) : Mem w0 w.drew B T M A D O L cl R lv cv dv X :=
  h.below ⟨rfl, rfl, rfl, Nat.le_refl _, fun _ _ => rfl⟩
/-- What play comes to. -/
def PlayP (w0 : World) (B T M : Nat) (j : Nat) (e : Ending) (w' : World) : Prop :=
  e = .returned (.bool true) ∧ ∃ (A : List Ent) (D : List (Nat × Nat)) (O : Nat → Prop) (L : List Ent) (cl : Nat) (R : Nat → Prop) (lv cv dv : Value) (X : List Cu), Mem w0 w' B T M A D O L cl R lv cv dv X ∧ Rel A D L cl X ∧ L.length ≤ j ∧ cl ≤ j ∧ X.length ≤ 40
/-- What Get comes to, by variables. -/
def GetR (A : List Ent) (k gv : K3) (gf : Int) (gb : Bool) : Prop := (gb = true ∧ ∃ x ∈ A, isKey k x = true ∧ gv = x.val ∧ gf = x.flags) ∨ (gb = false ∧ ∀ x ∈ A, isKey k x = false)
theorem get_st (T : Nat) (A : List Ent) (D : List (Nat × Nat)) (O : Nat → Prop) (k : K3) (w : World) (h : TabA w T A D O) (hk : k.2.2.size ≤ 4000) :
    Calls Try.prog 20 #[.pointer (some ⟨T, 0, none⟩), VK k] w fun e w' => ∃ gv gf gb, e = .returned (.tuple #[VK gv, .int .i64 gf, .bool gb]) ∧ GetR A k gv gf gb ∧ Below w.heap.size w w' :=
  (get_any T A D O k w h hk).mono fun e w' ⟨b, hc⟩ => by
    rcases hc with ⟨x, hx, hk, he⟩ | ⟨hn, he⟩
    · exact ⟨x.val, x.flags, true, he, .inl ⟨rfl, x, hx, hk, rfl, rfl⟩, b⟩
    · exact ⟨(0, 0, ⟨#[]⟩), 0, false, he, .inr ⟨rfl, hn⟩, b⟩
theorem TabA.D_le {w : World} {T : Nat} {A : List Ent} {D : List (Nat × Nat)} {O : Nat → Prop} (h : TabA w T A D O) {d : Nat × Nat} (hd : d ∈ D) : d.2 ≤ A.length := by
  obtain ⟨lv, sv, cv, es, sl, cs, hs, rfl, rfl⟩ := h
  obtain ⟨x, _, rfl⟩ := List.mem_map.1 hd
  exact cnt_le es x.2
/-- What both tell of a key is like. -/
theorem GetR.like {A L : List Ent} {D : List (Nat × Nat)} {cl : Nat} {X : List Cu} {k gv : K3} {gf : Int} {gb : Bool} {i : Int} (hr : Rel A D L cl X) (h : GetR A k gv gf gb) (hf : RFnd L k i) :
    (gb = false ∧ i = -1) ∨ ∃ (j : Nat) (e : Ent), gb = true ∧ i = (j : Int) ∧ L[j]? = some e ∧ gv = e.val ∧ gf = e.flags := by
  rcases hf with ⟨rfl, hn⟩ | ⟨j, e, rfl, hj, hk⟩
  · rcases h with ⟨_, x, hx, hkx, _⟩ | ⟨rfl, _⟩
    · rw [← hr.cpL] at hx
      rw [hn x (mem_cp hx).1] at hkx; cases hkx
    · exact .inl ⟨rfl, rfl⟩
  · have he : e ∈ A := by rw [← hr.cpL]; exact List.mem_filter.2 ⟨List.mem_of_getElem? hj, by simp [(isKey_true.1 hk).1]⟩
    rcases h with ⟨rfl, x, hx, hkx, rfl, rfl⟩ | ⟨_, hn⟩
    · rw [← hr.cpL] at hx
      obtain ⟨j', hj'⟩ := List.getElem?_of_mem (mem_cp hx).1
      have h1 := isKey_true.1 hk
      have h2 := isKey_true.1 hkx
      have h3 := hr.kd j j' e x hj hj' h1.1 h2.1 (by rw [h1.2, h2.2])
      subst h3
      obtain rfl : e = x := Option.some.inj (hj.symm.trans hj')
      exact .inr ⟨j, e, rfl, rfl, hj, rfl, rfl⟩
    · rw [hn e he] at hk; cases hk
theorem Rel.AL {A : List Ent} {D : List (Nat × Nat)} {L : List Ent} {cl : Nat} {X : List Cu} (h : Rel A D L cl X) : A.length ≤ L.length := by rw [← h.cpL]; exact List.length_filter_le _ _
theorem Rel.DL {A : List Ent} {D : List (Nat × Nat)} {L : List Ent} {cl : Nat} {X : List Cu} (h : Rel A D L cl X) : D.length ≤ X.length := by rw [h.dl]; exact List.length_filter_le _ _

end Go.Proofs.Ytlgnjbdkkpjjaaa
