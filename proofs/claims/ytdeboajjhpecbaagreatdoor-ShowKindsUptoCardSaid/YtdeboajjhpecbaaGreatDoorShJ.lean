/- ShJ: several texts in one. -/
import Derived.Test.YtdeboajjhpecbaaGreatDoorShG
import Derived.Test.YtdeboajjhpecbaaGreatDoorValB
import Derived.Test.YtdeboajjhpecbaaGreatDoorTxtGoW
import Derived.Great.Walk
/- Show: what is printed of a value, by how it lies in memory. -/
set_option linter.unusedVariables false
set_option linter.unusedSimpArgs false
namespace Go.Proofs.YtdeboajjhpecbaaGreatDoor.Hp
open Go.RowKit Go.Proofs.YtdeboajjhpecbaaGreatDoor Go.Shelf
theorem valsC_cons (k : K3) (L : List K3) : valsC (k :: L) = .int .i64 k.1 :: .int .i64 k.2.1 :: .string k.2.2 :: valsC L := by simp [valsC]
theorem valsC_at (L : List K3) (i : Nat) (k : K3) (h : L[i]? = some k) : (valsC L)[i * 3]? = some (.int .i64 k.1) ∧ (valsC L)[i * 3 + 1]? = some (.int .i64 k.2.1) ∧ (valsC L)[i * 3 + 2]? = some (.string k.2.2) := by
  induction L generalizing i with
  | nil => simp at h
  | cons x L ih =>
    rw [valsC_cons]
    cases i with
    | zero =>
      simp at h; subst h
      exact ⟨rfl, rfl, rfl⟩
    | succ i =>
      have := ih i (by simpa using h)
      rw [show (i + 1) * 3 = i * 3 + 1 + 1 + 1 by omega]
      exact this
/-- As Kp, but for the boxes that E names. -/
def KpE (E : Nat → Prop) (w w' : World) : Prop := ∀ g t cs, Blk w g t cs → (t = 85 ∨ t = 30 ∨ t = 99) → ¬ E g → Blk w' g t cs
theorem Kp.e {w w' : World} (h : Kp w w') (E : Nat → Prop) : KpE E w w' := fun g t cs hb ht _ => h g t cs hb ht
theorem KpE.of_upd {E : Nat → Prop} {w w' : World} (u : Upd w w' E) : KpE E w w' := fun g t cs hb _ he => u.blk hb he
theorem KpE.trans {E : Nat → Prop} {w w' w'' : World} (h : KpE E w w') (k : KpE E w' w'') : KpE E w w'' := fun g t cs hb ht he => k g t cs (h g t cs hb ht he) ht he
/-- How a value is printed within so many arrays. -/
inductive Shs (F : Prop) (E : Nat → Prop) (m : Nat) (w : World) (cs : List Cell) : Int → K3 → List UInt8 → Prop
  | plain (d k n : Int) (s : ByteArray) (l : List Nat) (h8 : (k == 8) = false) (h9 : (k == 9) = false) (h10 : (k == 10) = false) (hv : Vx.IsV k n s) (ht : Vx.textF k n s = (Tx.uS l, 0)) (hf : Tx.Fits l) (hl : l.length ≤ 4000) : Shs F E m w cs d (k, n, s) (Tx.goB (Tx.signs l))
  | empty (d n : Int) (s : ByteArray) : Shs F E m w cs d (10, n, s) []
  | deep (d r : Int) (s : ByteArray) (b T : Nat) (pr at_ : Int) (clo : Bool) (ev tb wk fa : Value) (hd : decide (d > 2) = true) (hp : objP cs r = .pointer (some ⟨b, 0, none⟩)) (hB : Blk w b 85 (objA 1 pr clo T ev tb wk fa at_)) (hbE : ¬ E b) : Shs F E m w cs d (9, r, s) [91, 46, 46, 93]
  | array (d r : Int) (s : ByteArray) (b T g cap : Nat) (pr at_ : Int) (clo : Bool) (tb wk fa : Value) (L : List K3) (ss : List (List UInt8)) (hd0 : 0 ≤ d) (hd : decide (d > 2) = false) (hp : objP cs r = .pointer (some ⟨b, 0, none⟩))
      (hB : Blk w b 85 (objA 1 pr clo T (.slice (some ⟨g, 0, none⟩) L.length cap) tb wk fa at_)) (V : Array Value) (hV : Blk w g 30 V) (hVL : ∀ i, i < L.length * 3 → V[i]? = (valsC L)[i]?) (hl : ss.length = L.length) (hn : L.length ≤ 1000) (hsz : (jn ss).length ≤ 16000) (hbE : ¬ E b) (hgE : ¬ E g)
      (hS : ∀ (i : Nat) k, L[i]? = some k → Shs F E m w cs (d + 1) k (ss.getD i [])) : Shs F E m w cs d (9, r, s) (91 :: (jn ss ++ [93]))
  | raw (hF : F) (d : Int) (k : K3) (bs : List UInt8) (h : ∀ W, Below w.heap.size w W → Calls Tryz.prog 20 #[.pointer (some ⟨m, 0, none⟩), VK k, .int .i64 d] W (ShwP ⟨bs.toArray⟩ W)) : Shs F E m w cs d k bs
theorem objP_app (cs : List Cell) (x : Cell) (r : Int) (b : Nat) (h : objP cs r = .pointer (some ⟨b, 0, none⟩)) : objP (cs ++ [x]) r = .pointer (some ⟨b, 0, none⟩) := by
  by_cases hr : r ≤ cs.length
  · rw [objP_old cs x r hr]; exact h
  · unfold objP at h
    rw [if_neg (by omega)] at h
    cases h
theorem Shs.mono {E : Nat → Prop} {m : Nat} {w w' : World} {cs : List Cell} {d : Int} {k : K3} {bs : List UInt8} (h : Shs False E m w cs d k bs) (hK : KpE E w w') (x : Cell) : Shs False E m w' (cs ++ [x]) d k bs := by
  induction h with
  | plain d k n s l h8 h9 h10 hv ht hf hl => exact .plain d k n s l h8 h9 h10 hv ht hf hl
  | empty d n s => exact .empty d n s
  | deep d r s b T pr at_ clo ev tb wk fa hd hp hB hbE => exact .deep d r s b T pr at_ clo ev tb wk fa hd (objP_app cs x r b hp) (hK _ _ _ hB (by simp) hbE) hbE
  | array d r s b T g cap pr at_ clo tb wk fa L ss hd0 hd hp hB V hV hVL hl hn hsz hbE hgE hS ih => exact .array d r s b T g cap pr at_ clo tb wk fa L ss hd0 hd (objP_app cs x r b hp) (hK _ _ _ hB (by simp) hbE) V (hK _ _ _ hV (by simp) hgE) hVL hl hn hsz hbE hgE ih
  | raw hF => exact hF.elim
theorem Shs.keep {E : Nat → Prop} {m : Nat} {w w' : World} {cs : List Cell} {d : Int} {k : K3} {bs : List UInt8} (h : Shs False E m w cs d k bs) (hK : KpE E w w') : Shs False E m w' cs d k bs := by
  induction h with
  | plain d k n s l h8 h9 h10 hv ht hf hl => exact .plain d k n s l h8 h9 h10 hv ht hf hl
  | empty d n s => exact .empty d n s
  | deep d r s b T pr at_ clo ev tb wk fa hd hp hB hbE => exact .deep d r s b T pr at_ clo ev tb wk fa hd hp (hK _ _ _ hB (by simp) hbE) hbE
  | array d r s b T g cap pr at_ clo tb wk fa L ss hd0 hd hp hB V hV hVL hl hn hsz hbE hgE hS ih => exact .array d r s b T g cap pr at_ clo tb wk fa L ss hd0 hd hp (hK _ _ _ hB (by simp) hbE) V (hK _ _ _ hV (by simp) hgE) hVL hl hn hsz hbE hgE ih
  | raw hF => exact hF.elim
/-- What is printed. -/
theorem shs_show {F : Prop} {E : Nat → Prop} {N : Nat} {w : World} {m H A B : Nat} {cv : Value} {cs : List Cell} {ps : List Int} (hM : Ms N w m H A B cv cs ps) (hc : cs.length ≤ 4000) (hT : ∀ W, Below w.heap.size w W → Vx.Tb W) {d : Int} {k : K3} {bs : List UInt8} (h : Shs F E m w cs d k bs) :
    ∀ W, Below w.heap.size w W → Calls Tryz.prog 20 #[.pointer (some ⟨m, 0, none⟩), VK k, .int .i64 d] W (ShwP ⟨bs.toArray⟩ W) := by
  induction h with
  | plain d k n s l h8 h9 h10 hv ht hf hl =>
    intro W hW
    refine show_plain m k n s (Tx.uS l) _ d W h8 h10 h9 (fun W' hW' => ?_) (fun W' => ?_)
    · have := Vx.text_any k n s W' hv (hT W' (hW.trans (hW'.mono hW.size)))
      rw [ht] at this
      exact this
    · exact Tx.go_uS l hf W' (by omega)
  | empty d n s => intro W hW; exact show_empty m n s d W
  | deep d r s b T pr at_ clo ev tb wk fa hd hp hB hbE =>
    intro W hW
    refine show_obj m r s _ d W (fun W' hW' => ?_)
    have hW2 := hW.trans (hW'.mono hW.size)
    have h2 := hM.below hW2
    refine object_deep (H := H) (b := b) hd (by rw [h2.mb.cell]; rfl) (hB.below hW2 hB.lt) (fun W3 h3 => ?_)
    have := of_obj r s (h2.below h3).hx (by omega) hM.hk
    rw [hp] at this
    exact this
  | array d r s b T g cap pr at_ clo tb wk fa L ss hd0 hd hp hB V hV hVL hl hn hsz hbE hgE hS ih =>
    intro W hW
    refine show_obj m r s _ d W (fun W' hW' => ?_)
    have hW2 := hW.trans (hW'.mono hW.size)
    have h2 := hM.below hW2
    have hV2 := hV.below hW2 hV.lt
    refine object_array (H := H) (b := b) hd hd0 (by rw [h2.mb.cell]; rfl) (hB.below hW2 hB.lt) (fun W3 h3 => ?_) (fun i k hk => ?_) hl hn hsz (fun i k hk W3 h3 => ih i k hk W3 (hW2.trans (h3.mono hW2.size)))
    · have := of_obj r s (h2.below h3).hx (by omega) hM.hk
      rw [hp] at this
      exact this
    · have hi : i < L.length := by
        rcases Nat.lt_or_ge i L.length with h | h
        · exact h
        · rw [List.getElem?_eq_none h] at hk; cases hk
      have hv := valsC_at L i k hk
      exact ⟨by rw [hV2.cell, hVL _ (by omega)]; exact hv.1, by rw [hV2.cell, hVL _ (by omega)]; exact hv.2.1, by rw [hV2.cell, hVL _ (by omega)]; exact hv.2.2⟩
  | raw hF d k bs h => exact h
end Go.Proofs.YtdeboajjhpecbaaGreatDoor.Hp

/- Show: the example. -/
set_option linter.unusedVariables false
set_option linter.unusedSimpArgs false
namespace Go.Proofs.YtdeboajjhpecbaaGreatDoor.Hp
open Go.RowKit Go.Proofs.YtdeboajjhpecbaaGreatDoor Go.Shelf
theorem uT_eq (b : ByteArray) : Vx.uT b = Tx.uS (Tx.unitsOf b) := rfl
theorem unitsOf_fits (b : ByteArray) : Tx.Fits (Tx.unitsOf b) := Tx.decUnits_fits b _ _
theorem unitsOf_ascii (l : List UInt8) (h : ∀ c, c ∈ l → c.toNat < 128) : Tx.unitsOf ⟨l.toArray⟩ = l.map (·.toNat) := by
  unfold Tx.unitsOf
  exact Tx.decUnits_ascii l h _ 0 (by show l.length ≤ 0 + l.toArray.size; simp)
/-- A value whose text is plain. -/
theorem Shs.ascii {F : Prop} {E : Nat → Prop} {m : Nat} {w : World} {cs : List Cell} (d k n : Int) (s : ByteArray) (l r : List UInt8) (h8 : (k == 8) = false) (h9 : (k == 9) = false) (h10 : (k == 10) = false) (hv : Vx.IsV k n s) (ht : Vx.textF k n s = (Vx.uT ⟨l.toArray⟩, 0))
    (ha : l.all (fun c => decide (c.toNat < 128)) = true) (hl : l.length ≤ 1000) (hr : Tx.goB (Tx.signs (l.map (·.toNat))) = r) : Shs F E m w cs d (k, n, s) r := by
  have hA : ∀ c, c ∈ l → c.toNat < 128 := by simpa using ha
  have hu := unitsOf_ascii l hA
  rw [← hr, ← hu]
  refine .plain d k n s _ h8 h9 h10 hv ?_ (unitsOf_fits _) (by rw [hu]; simp; omega)
  rw [ht, uT_eq]
theorem isV_int (n : Int) (h : Vx.IsNum 3 n) : Vx.IsV 3 n ⟨#[]⟩ := ⟨by decide, by decide, fun _ _ => h, fun _ => rfl, fun h => by omega, ⟨[], (fun u hu => (by cases hu)), rfl, (by simp)⟩⟩
theorem Shs.digit {F : Prop} {E : Nat → Prop} {m : Nat} {w : World} {cs : List Cell} (d : Int) (n : Nat) (h : n < 10) : Shs F E m w cs d (3, (n : Int), ⟨#[]⟩) [UInt8.ofNat (48 + n)] := by
  refine .ascii d 3 n ⟨#[]⟩ [UInt8.ofNat (48 + n)] _ (by decide) (by decide) (by decide) (isV_int _ ?_) ?_ ?_ (by simp) ?_
  · unfold Vx.IsNum; omega
  · show (Vx.uT ⟨(Lib.itoa (n : Int)).toArray⟩, (0 : Int)) = _
    have : Lib.itoa (n : Int) = [UInt8.ofNat (48 + n)] := by
      match n, h with
      | 0, _ => show Lib.decDigits 0 = _; rw [Lib.decDigits]; rfl
      | 1, _ => show Lib.decDigits 1 = _; rw [Lib.decDigits]; rfl
      | 2, _ => show Lib.decDigits 2 = _; rw [Lib.decDigits]; rfl
      | 3, _ => show Lib.decDigits 3 = _; rw [Lib.decDigits]; rfl
      | 4, _ => show Lib.decDigits 4 = _; rw [Lib.decDigits]; rfl
      | 5, _ => show Lib.decDigits 5 = _; rw [Lib.decDigits]; rfl
      | 6, _ => show Lib.decDigits 6 = _; rw [Lib.decDigits]; rfl
      | 7, _ => show Lib.decDigits 7 = _; rw [Lib.decDigits]; rfl
      | 8, _ => show Lib.decDigits 8 = _; rw [Lib.decDigits]; rfl
      | 9, _ => show Lib.decDigits 9 = _; rw [Lib.decDigits]; rfl
    rw [this]
  · match n, h with
    | 0, _ => rfl
    | 1, _ => rfl
    | 2, _ => rfl
    | 3, _ => rfl
    | 4, _ => rfl
    | 5, _ => rfl
    | 6, _ => rfl
    | 7, _ => rfl
    | 8, _ => rfl
    | 9, _ => rfl
  · match n, h with
    | 0, _ => rfl
    | 1, _ => rfl
    | 2, _ => rfl
    | 3, _ => rfl
    | 4, _ => rfl
    | 5, _ => rfl
    | 6, _ => rfl
    | 7, _ => rfl
    | 8, _ => rfl
    | 9, _ => rfl
/-- A string. -/
theorem Shs.str {F : Prop} {E : Nat → Prop} {m : Nat} {w : World} {cs : List Cell} (d : Int) (l : List Nat) (hf : Tx.Fits l) (hl : l.length ≤ 2000) : Shs F E m w cs d (7, 0, Tx.uS l) (Tx.goB (Tx.signs l)) :=
  .plain d 7 0 (Tx.uS l) l (by decide) (by decide) (by decide) ⟨by decide, by decide, fun h => by omega, fun h => absurd rfl h, fun h => by omega, l, hf, rfl, hl⟩ rfl hf (by omega)
theorem Shs.undef {F : Prop} {E : Nat → Prop} {m : Nat} {w : World} {cs : List Cell} (d : Int) : Shs F E m w cs d (0, 0, ⟨#[]⟩) [117, 110, 100, 101, 102, 105, 110, 101, 100] :=
  .ascii d 0 0 ⟨#[]⟩ [117, 110, 100, 101, 102, 105, 110, 101, 100] _ (by decide) (by decide) (by decide) ⟨by decide, by decide, fun h => by omega, fun _ => rfl, fun h => by omega, ⟨[], (fun u hu => (by cases hu)), rfl, (by simp)⟩⟩ rfl (by decide) (by decide) (by kernel_rfl)
/-- A machine's new array. -/
theorem Shs.mk {E : Nat → Prop} {m : Nat} {w w' : World} {cs : List Cell} {b T g cap : Nat} {pr : Int} {L : List K3} {ss : List (List UInt8)} {d : Int} (hK : Kp w w') (hB : Blk w' b 85 (objA 1 pr false T (.slice (some ⟨g, 0, none⟩) L.length cap) nilP nilP nilS 0))
    (V : Array Value) (hV : Blk w g 30 V) (hVL : ∀ i, i < L.length * 3 → V[i]? = (valsC L)[i]?) (hd0 : 0 ≤ d) (hd : decide (d > 2) = false) (hl : ss.length = L.length) (hn : L.length ≤ 1000) (hsz : (jn ss).length ≤ 16000) (hbE : ¬ E b) (hgE : ¬ E g)
    (hS : ∀ (i : Nat) k, L[i]? = some k → Shs False E m w cs (d + 1) k (ss.getD i [])) : Shs False E m w' (cs ++ [(some (tObj, b), false)]) d (9, ((cs.length + 1 : Nat) : Int), ⟨#[]⟩) (91 :: (jn ss ++ [93])) :=
  .array d _ _ b T g cap pr 0 false nilP nilP nilS L ss hd0 hd (objP_last cs b) hB V (hK _ _ _ hV (by simp)) hVL hl hn hsz hbE hgE (fun i k hk => (hS i k hk).mono (hK.e E) _)
theorem Shs.weak {F : Prop} {E : Nat → Prop} {m : Nat} {w : World} {cs : List Cell} {d : Int} {k : K3} {bs : List UInt8} (h : Shs False E m w cs d k bs) : Shs F E m w cs d k bs := by
  induction h with
  | plain d k n s l h8 h9 h10 hv ht hf hl => exact .plain d k n s l h8 h9 h10 hv ht hf hl
  | empty d n s => exact .empty d n s
  | deep d r s b T pr at_ clo ev tb wk fa hd hp hB hbE => exact .deep d r s b T pr at_ clo ev tb wk fa hd hp hB hbE
  | array d r s b T g cap pr at_ clo tb wk fa L ss hd0 hd hp hB V hV hVL hl hn hsz hbE hgE hS ih => exact .array d r s b T g cap pr at_ clo tb wk fa L ss hd0 hd hp hB V hV hVL hl hn hsz hbE hgE ih
  | raw hF => exact hF.elim
end Go.Proofs.YtdeboajjhpecbaaGreatDoor.Hp

/- Show: the example is printed as it is said. -/
set_option linter.unusedVariables false
set_option linter.unusedSimpArgs false
namespace Go.Proofs.YtdeboajjhpecbaaGreatDoor.Hp
open Go.RowKit Go.Proofs.YtdeboajjhpecbaaGreatDoor Go.Shelf
set_option maxRecDepth 100000 in
set_option maxHeartbeats 8000000 in
theorem fit_any (w : World) (hT : Vx.Tb w) : Calls Tryz.prog 5 #[] w (Ret (.bool true) w) := by
  have HT := Lib.hid hT
  clear hT
  go_enter Tryz.func5, Tryz.ntmps5
  go_wp2_with (fail)
  refine (machine_any _).mono ?_
  rintro e w1 ⟨m, H, A, B, cv, cs, ps, rfl, hM, hc, b1⟩
  have HM := Lib.hid (And.intro hM (And.intro hc b1))
  clear hM hc b1
  go_wp2_with (fail)
  have hg1 : w1.heap.size < (w1.alloc (.cells #[.int .i64 3, .int .i64 2, .string ⟨#[]⟩] 30)).heap.size := by simp
  have ha1 : Below w1.heap.size w1 (w1.alloc (.cells #[.int .i64 3, .int .i64 2, .string ⟨#[]⟩] 30)) := (Below.refl _ _).alloc (Nat.le_refl _) _
  have hV1 := Blk.new w1 30 #[.int .i64 3, .int .i64 2, .string ⟨#[]⟩]
  have hN1 : w.heap.size ≤ w1.heap.size := HM.out.2.2.size
  refine ((HM.out.1.below ha1).array _ 1 1 (by have := HM.out.2.1; omega) (by omega)).mono ?_
  rintro e w2 ⟨b, T, cv2, rfl, hM2, hB, hTb, h3, hK, b6⟩
  have hs2 : Shs False (fun _ => False) m w2 (cs ++ [(some (tObj, b), false)]) 1 (9, ((cs.length + 1 : Nat) : Int), ⟨#[]⟩) [91, 50, 93] :=
    Shs.mk (L := [(3, 2, ⟨#[]⟩)]) (ss := [[50]]) hK hB _ hV1 (fun i hi => by match i, hi with | 0, _ => rfl | 1, _ => rfl | 2, _ => rfl) (by decide) (by decide) rfl (by decide) (by decide) id id (fun i k hk => by
      match i, hk with
      | 0, hk =>
        simp at hk; subst hk
        exact Shs.digit _ 2 (by decide))
  have hl2 : (cs ++ [(some (tObj, b), false)]).length = 22 := by have := HM.out.2.1; simp; omega
  have hb2 := (HM.out.2.2.trans (ha1.mono hN1)).trans b6
  obtain ⟨r, hr⟩ : ∃ r : Int, ((cs.length + 1 : Nat) : Int) = r := ⟨_, rfl⟩
  rw [hr] at hs2 ⊢
  obtain ⟨cs2, hcs2⟩ : ∃ c, c = cs ++ [(some (tObj, b), false)] := ⟨_, rfl⟩
  rw [← hcs2] at hs2 hl2 hM2
  have HP := Lib.hid (And.intro hM2 (And.intro hs2 (And.intro hl2 hb2)))
  clear HM hg1 ha1 hV1 hN1 hM2 hB hTb h3 hK b6 hs2 hl2 hb2 hr hcs2
  go_wp2_with (fail)
  refine (Tx.val_any ⟨#[97]⟩ w2 (by decide)).mono ?_
  rintro e w3 ⟨rfl, b3⟩
  have hu : Tx.ofB ⟨#[97]⟩ = [0, 97] := by rw [show (⟨#[97]⟩ : ByteArray) = ⟨[97].toArray⟩ from rfl, Tx.ofB_ascii [97] (by decide)]; rfl
  rw [hu]
  have HQ := Lib.hid (And.intro (HP.out.1.below b3) (And.intro (HP.out.2.1.keep ((Kp.of_below b3).e _)) (And.intro HP.out.2.2.1 (HP.out.2.2.2.trans (b3.mono HP.out.2.2.2.size)))))
  clear HP b3 hu
  go_wp2_with (fail)
  have ha1 : Below w3.heap.size w3 (w3.alloc (.cells #[.int .i64 3, .int .i64 1, .string ⟨#[]⟩, .int .i64 9, .int .i64 r, .string ⟨#[]⟩, .int .i64 7, .int .i64 0, .string ⟨#[0, 97]⟩] 30)) := (Below.refl _ _).alloc (Nat.le_refl _) _
  have hV1 := Blk.new w3 30 #[.int .i64 3, .int .i64 1, .string ⟨#[]⟩, .int .i64 9, .int .i64 r, .string ⟨#[]⟩, .int .i64 7, .int .i64 0, .string ⟨#[0, 97]⟩]
  have hN1 : w.heap.size ≤ w3.heap.size := HQ.out.2.2.2.size
  refine ((HQ.out.1.below ha1).array _ 3 3 (by have := HQ.out.2.2.1; omega) (by simp; omega)).mono ?_
  rintro e w4 ⟨b', T', cv4, rfl, hM4, hB, hTb, h3, hK, b6⟩
  have hs4 : Shs False (fun _ => False) m w4 (cs2 ++ [(some (tObj, b'), false)]) 0 (9, ((cs2.length + 1 : Nat) : Int), ⟨#[]⟩) [91, 49, 44, 32, 91, 50, 93, 44, 32, 97, 93] :=
    Shs.mk (L := [(3, 1, ⟨#[]⟩), (9, r, ⟨#[]⟩), (7, 0, ⟨#[0, 97]⟩)]) (ss := [[49], [91, 50, 93], [97]]) hK hB _ hV1 (fun i hi => by match i, hi with | 0, _ => rfl | 1, _ => rfl | 2, _ => rfl | 3, _ => rfl | 4, _ => rfl | 5, _ => rfl | 6, _ => rfl | 7, _ => rfl | 8, _ => rfl) (by decide) (by decide) rfl (by simp) (by decide) id id (fun i k hk => by
      match i, hk with
      | 0, hk =>
        simp at hk; subst hk
        exact Shs.digit _ 1 (by decide)
      | 1, hk =>
        simp at hk; subst hk
        exact HQ.out.2.1.keep ((Kp.of_below ha1).e _)
      | 2, hk =>
        simp at hk; subst hk
        exact Shs.str _ [97] (fun u hu => (by simp at hu; omega)) (by decide))
  have hl4 : (cs2 ++ [(some (tObj, b'), false)]).length = 23 := by have := HQ.out.2.2.1; simp; omega
  have hb4 := (HQ.out.2.2.2.trans (ha1.mono hN1)).trans b6
  obtain ⟨r', hr'⟩ : ∃ r : Int, ((cs2.length + 1 : Nat) : Int) = r := ⟨_, rfl⟩
  rw [hr'] at hs4 ⊢
  obtain ⟨cs4, hcs4⟩ : ∃ c, c = cs2 ++ [(some (tObj, b'), false)] := ⟨_, rfl⟩
  rw [← hcs4] at hs4 hl4 hM4
  have bn := (Below.refl w4.heap.size w4).alloc (Nat.le_refl _) (.cells #[.int .i64 9, .int .i64 r', .string ⟨#[]⟩] 30)
  have HP := Lib.hid (And.intro (hM4.below bn) (And.intro (hs4.keep ((Kp.of_below bn).e _)) (And.intro hl4 (hb4.trans (bn.mono hb4.size)))))
  clear HQ ha1 hV1 hN1 hM4 hB hTb h3 hK b6 hs4 hl4 hb4 hr' hcs4 bn
  go_wp2_with (fail)
  refine (Show_any m 9 r' ⟨#[]⟩ _ (by show (91 :: 49 :: _ : List UInt8).length ≤ _; decide) _ (fun W hW => shs_show HP.out.1 (by have := HP.out.2.2.1; omega) (fun W' hW' => HT.out.below (HP.out.2.2.2.trans (hW'.mono HP.out.2.2.2.size))) HP.out.2.1 W hW)).mono ?_
  rintro e w5 ⟨rfl, b5⟩
  have HB := Lib.hid (HP.out.2.2.2.trans (b5.mono HP.out.2.2.2.size))
  clear HP b5
  go_wp2
  go_ret
  exact ⟨rfl, HB.out⟩
end Go.Proofs.YtdeboajjhpecbaaGreatDoor.Hp
