/- Show: the example. -/
import Derived.Test.YtdeboajjhpecbaaDoorShH
import Derived.Great.Walk
set_option linter.unusedVariables false
set_option linter.unusedSimpArgs false
namespace Go.Proofs.YtdeboajjhpecbaaDoor.Hp
open Go.RowKit Go.Proofs.YtdeboajjhpecbaaDoor Go.Shelf
theorem uT_eq (b : ByteArray) : Vx.uT b = Tx.uS (Tx.unitsOf b) := rfl
theorem unitsOf_fits (b : ByteArray) : Tx.Fits (Tx.unitsOf b) := Tx.decUnits_fits b _ _
theorem unitsOf_ascii (l : List UInt8) (h : ∀ c, c ∈ l → c.toNat < 128) : Tx.unitsOf ⟨l.toArray⟩ = l.map (·.toNat) := by
  unfold Tx.unitsOf
  exact Tx.decUnits_ascii l h _ 0 (by show l.length ≤ 0 + l.toArray.size; simp)
/-- A value whose text is plain. -/
theorem Shs.ascii {F : Prop} {E : Nat → Prop} {m : Nat} {w : World} {cs : List Cell} (d k n : Int) (s : ByteArray) (l r : List UInt8) (h8 : (k == 8) = false) (h9 : (k == 9) = false) (h10 : (k == 10) = false) (hv : Vx.IsV k n s) (ht : Vx.textF k n s = (Vx.uT ⟨l.toArray⟩, 0))
    (ha : l.all (fun c => decide (c.toNat < 128)) = true) (hl : l.length ≤ 1000) (hr : Tx.goB (Tx.signs (l.map (·.toNat))) = r) : Shs F E m w cs d (k, n, s) r := by
  have hA : ∀ c, c ∈ l → c.toNat < 128 := by simpa using ha
  have hu := unitsOf_ascii l hA
  rw [← hr, ← hu]
  refine .plain d k n s _ h8 h9 h10 hv ?_ (unitsOf_fits _) (by rw [hu]; simp; omega)
  rw [ht, uT_eq]
theorem isV_int (n : Int) (h : Vx.IsNum 3 n) : Vx.IsV 3 n ⟨#[]⟩ := ⟨by decide, by decide, fun _ _ => h, fun _ => rfl, fun h => by omega, ⟨[], (fun u hu => (by cases hu)), rfl, (by simp)⟩⟩
theorem Shs.digit {F : Prop} {E : Nat → Prop} {m : Nat} {w : World} {cs : List Cell} (d : Int) (n : Nat) (h : n < 10) : Shs F E m w cs d (3, (n : Int), ⟨#[]⟩) [UInt8.ofNat (48 + n)] := by
  refine .ascii d 3 n ⟨#[]⟩ [UInt8.ofNat (48 + n)] _ (by decide) (by decide) (by decide) (isV_int _ ?_) ?_ ?_ (by simp) ?_
  · unfold Vx.IsNum; omega
  · show (Vx.uT ⟨(Lib.itoa (n : Int)).toArray⟩, (0 : Int)) = _
    have : Lib.itoa (n : Int) = [UInt8.ofNat (48 + n)] := by
      match n, h with
      | 0, _ => show Lib.decDigits 0 = _; rw [Lib.decDigits]; rfl
      | 1, _ => show Lib.decDigits 1 = _; rw [Lib.decDigits]; rfl
      | 2, _ => show Lib.decDigits 2 = _; rw [Lib.decDigits]; rfl
      | 3, _ => show Lib.decDigits 3 = _; rw [Lib.decDigits]; rfl
      | 4, _ => show Lib.decDigits 4 = _; rw [Lib.decDigits]; rfl
      | 5, _ => show Lib.decDigits 5 = _; rw [Lib.decDigits]; rfl
      | 6, _ => show Lib.decDigits 6 = _; rw [Lib.decDigits]; rfl
      | 7, _ => show Lib.decDigits 7 = _; rw [Lib.decDigits]; rfl
      | 8, _ => show Lib.decDigits 8 = _; rw [Lib.decDigits]; rfl
      | 9, _ => show Lib.decDigits 9 = _; rw [Lib.decDigits]; rfl
    rw [this]
  · match n, h with
    | 0, _ => rfl
    | 1, _ => rfl
    | 2, _ => rfl
    | 3, _ => rfl
    | 4, _ => rfl
    | 5, _ => rfl
    | 6, _ => rfl
    | 7, _ => rfl
    | 8, _ => rfl
    | 9, _ => rfl
  · match n, h with
    | 0, _ => rfl
    | 1, _ => rfl
    | 2, _ => rfl
    | 3, _ => rfl
    | 4, _ => rfl
    | 5, _ => rfl
    | 6, _ => rfl
    | 7, _ => rfl
    | 8, _ => rfl
    | 9, _ => rfl
/-- A string. -/
theorem Shs.str {F : Prop} {E : Nat → Prop} {m : Nat} {w : World} {cs : List Cell} (d : Int) (l : List Nat) (hf : Tx.Fits l) (hl : l.length ≤ 2000) : Shs F E m w cs d (7, 0, Tx.uS l) (Tx.goB (Tx.signs l)) :=
  .plain d 7 0 (Tx.uS l) l (by decide) (by decide) (by decide) ⟨by decide, by decide, fun h => by omega, fun h => absurd rfl h, fun h => by omega, l, hf, rfl, hl⟩ rfl hf (by omega)
theorem Shs.undef {F : Prop} {E : Nat → Prop} {m : Nat} {w : World} {cs : List Cell} (d : Int) : Shs F E m w cs d (0, 0, ⟨#[]⟩) [117, 110, 100, 101, 102, 105, 110, 101, 100] :=
  .ascii d 0 0 ⟨#[]⟩ [117, 110, 100, 101, 102, 105, 110, 101, 100] _ (by decide) (by decide) (by decide) ⟨by decide, by decide, fun h => by omega, fun _ => rfl, fun h => by omega, ⟨[], (fun u hu => (by cases hu)), rfl, (by simp)⟩⟩ rfl (by decide) (by decide) (by kernel_rfl)
/-- A machine's new array. -/
theorem Shs.mk {E : Nat → Prop} {m : Nat} {w w' : World} {cs : List Cell} {b T g cap : Nat} {pr : Int} {L : List K3} {ss : List (List UInt8)} {d : Int} (hK : Kp w w') (hB : Blk w' b 36 (objA 1 pr false T (.slice (some ⟨g, 0, none⟩) L.length cap) nilP nilP nilS 0))
    (V : Array Value) (hV : Blk w g 26 V) (hVL : ∀ i, i < L.length * 3 → V[i]? = (valsC L)[i]?) (hd0 : 0 ≤ d) (hd : decide (d > 2) = false) (hl : ss.length = L.length) (hn : L.length ≤ 1000) (hsz : (jn ss).length ≤ 16000) (hbE : ¬ E b) (hgE : ¬ E g)
    (hS : ∀ (i : Nat) k, L[i]? = some k → Shs False E m w cs (d + 1) k (ss.getD i [])) : Shs False E m w' (cs ++ [(some (tObj, b), false)]) d (9, ((cs.length + 1 : Nat) : Int), ⟨#[]⟩) (91 :: (jn ss ++ [93])) :=
  .array d _ _ b T g cap pr 0 false nilP nilP nilS L ss hd0 hd (objP_last cs b) hB V (hK _ _ _ hV (by simp)) hVL hl hn hsz hbE hgE (fun i k hk => (hS i k hk).mono (hK.e E) _)
theorem Shs.weak {F : Prop} {E : Nat → Prop} {m : Nat} {w : World} {cs : List Cell} {d : Int} {k : K3} {bs : List UInt8} (h : Shs False E m w cs d k bs) : Shs F E m w cs d k bs := by
  induction h with
  | plain d k n s l h8 h9 h10 hv ht hf hl => exact .plain d k n s l h8 h9 h10 hv ht hf hl
  | empty d n s => exact .empty d n s
  | deep d r s b T pr at_ clo ev tb wk fa hd hp hB hbE => exact .deep d r s b T pr at_ clo ev tb wk fa hd hp hB hbE
  | array d r s b T g cap pr at_ clo tb wk fa L ss hd0 hd hp hB V hV hVL hl hn hsz hbE hgE hS ih => exact .array d r s b T g cap pr at_ clo tb wk fa L ss hd0 hd hp hB V hV hVL hl hn hsz hbE hgE ih
  | raw hF => exact hF.elim
end Go.Proofs.YtdeboajjhpecbaaDoor.Hp
