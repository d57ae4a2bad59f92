/- Contracts of Get and Delete. -/
import Derived.Test.YtdeboajjhpecbaaDoorOtD
set_option linter.unusedVariables false
set_option linter.unusedSimpArgs false
namespace Go.Proofs.YtdeboajjhpecbaaDoor
open Go.RowKit Go.Sort

theorem load_find {es : List Ent} {sl : List Nat} (h : 2 * es.length ≤ sl.length) : sl.length = 0 ∨ es.length < sl.length := by omega

/-- What find tells of what is there. -/
theorem findR_cases {es : List Ent} {sl : List Nat} {k : K3} {i : Int} {s : Nat} (h : FindR es sl k i s) (hl : 2 * es.length ≤ sl.length) :
    (i = -1 ∧ ∀ (j : Nat) (e : Ent), es[j]? = some e → isKey k e = false) ∨ ∃ (j : Nat) (e : Ent), i = (j : Int) ∧ es[j]? = some e ∧ isKey k e = true := by
  cases h with
  | none0 h0 =>
    refine .inl ⟨rfl, fun j e he => ?_⟩
    have := (List.getElem?_eq_some_iff.1 he).1
    omega
  | none d h1 h2 h3 h4 => exact .inl ⟨rfl, h4⟩
  | some s j e h1 h2 => exact .inr ⟨j, e, rfl, h1, h2⟩

def GetP (A : List Ent) (k : K3) (w : World) (e : Ending) (w' : World) : Prop :=
  Below w.heap.size w w' ∧ ((∃ x ∈ A, isKey k x = true ∧ e = .returned (.tuple #[VK x.val, .int .i64 x.flags, .bool true])) ∨ ((∀ x ∈ A, isKey k x = false) ∧ e = .returned (.tuple #[VS 0 0 ⟨#[]⟩, .int .i64 0, .bool false])))

set_option maxHeartbeats 4000000 in
set_option maxRecDepth 100000 in
theorem get_any (T : Nat) (A : List Ent) (D : List (Nat × Nat)) (O : Nat → Prop) (k : K3) (w : World) (h : TabA w T A D O) (hk : k.2.2.size ≤ 4000) :
    Calls Tryd.prog 55 #[.pointer (some ⟨T, 0, none⟩), VK k] w (GetP A k w) := by
  obtain ⟨lv, sv, cv, es, sl, cs, hs, rfl, rfl⟩ := h
  have ht := hs.tab
  have hb1 : Below w.heap.size w ((w.alloc (SC k.1 k.2.1 k.2.2)).alloc (SC 0 0 ⟨#[]⟩)) := ((Below.refl _ _).alloc (Nat.le_refl _) _).alloc (by simp) _
  have ht1 := ht.below hb1
  have kb : Blk ((w.alloc (SC k.1 k.2.1 k.2.2)).alloc (SC 0 0 ⟨#[]⟩)) (w.heap.size + 1) 26 #[.int .i64 0, .int .i64 0, .string ⟨#[]⟩] := by
    have := Blk.new (w.alloc (SC k.1 k.2.1 k.2.2)) 26 #[.int .i64 0, .int .i64 0, .string ⟨#[]⟩]
    rwa [World.size_alloc] at this
  go_enter Tryd.func55, Tryd.ntmps55
  go_wp2_with fail
  generalize ((w.alloc (SC k.1 k.2.1 k.2.2)).alloc (SC 0 0 ⟨#[]⟩)) = w1 at *
  refine (find_any T lv sv cv es sl _ cs O k w1 ht1 hs.core hs.slotN (load_find hs.load) hk).mono ?_
  rintro e w2 ⟨i, s, rfl, hf, b2⟩
  have ht2 := ht1.below b2
  have kc := kb.below b2 kb.lt
  have hb2 := hb1.trans (b2.mono hb1.size)
  have r0 : w2.cell? ⟨w.heap.size + 1, 0, none⟩ = some (.int .i64 0) := by rw [kc.cell]; rfl
  have r1 : w2.cell? ⟨w.heap.size + 1, 1, none⟩ = some (.int .i64 0) := by rw [kc.cell]; rfl
  have r2 : w2.cell? ⟨w.heap.size + 1, 2, none⟩ = some (.string ⟨#[]⟩) := by rw [kc.cell]; rfl
  have f0 := kc.frozen 0
  have f1 := kc.frozen 1
  have f2 := kc.frozen 2
  have lc := kc.lt
  rcases findR_cases hf hs.load with ⟨rfl, hno⟩ | ⟨j, x, rfl, hx, hkx⟩
  · have hno2 : ∀ x ∈ cp es, isKey k x = false := fun x hx => by
      obtain ⟨i, hi⟩ := List.getElem?_of_mem (mem_cp hx).1
      exact hno i x hi
    have HN := Lib.hid hno2
    have HB := Lib.hid hb2
    clear hf hno hno2 ht ht1 ht2 hs hb1 hb2 b2 kb
    go_wp2
    refine bodyPost_ret (v := .tuple #[VS 0 0 ⟨#[]⟩, .int .i64 0, .bool false]) ?_ rfl ⟨?_, .inr ⟨HN.out, rfl⟩⟩
    · first | (simp [results, Tryd.results55, go_sem, r0, r1, r2, f0, f1, f2, lc]; done)
    · exact ((HB.out.setCell (p := ⟨w.heap.size + 1, 0, none⟩) (Nat.le_succ _) _).setCell (p := ⟨w.heap.size + 1, 1, none⟩) (Nat.le_succ _) _).setCell (p := ⟨w.heap.size + 1, 2, none⟩) (Nat.le_succ _) _
  · obtain ⟨A0, c0, rfl, hA0⟩ := own_shape ht.ents
    have hj := (List.getElem?_eq_some_iff.1 hx).1
    obtain ⟨g, rfl⟩ := hA0 (by omega)
    have x0 : w2.cell? ⟨T, 0, none⟩ = some (.slice (some ⟨g, 0, none⟩) es.length c0) := by rw [ht2.blk.cell]; rfl
    have e3 : w2.cell? ⟨g, j * 8 + 3, none⟩ = some (.int .i64 x.val.1) := ht2.ent j x hx 3 (by decide)
    have e4 : w2.cell? ⟨g, j * 8 + 4, none⟩ = some (.int .i64 x.val.2.1) := ht2.ent j x hx 4 (by decide)
    have e5 : w2.cell? ⟨g, j * 8 + 5, none⟩ = some (.string x.val.2.2) := ht2.ent j x hx 5 (by decide)
    have e6 : w2.cell? ⟨g, j * 8 + 6, none⟩ = some (.int .i64 x.flags) := ht2.ent j x hx 6 (by decide)
    have n1 : T ≠ w.heap.size + 1 := ht2.blk.ne_ kc (by decide)
    have n2 : g ≠ w.heap.size + 1 := fun e => own_blk_ne ht2.ents kc (by decide) (by rw [← e]; rfl)
    have n3 := n1.symm
    have n4 := n2.symm
    have hmem : x ∈ cp es := by
      refine List.mem_filter.2 ⟨List.mem_of_getElem? hx, ?_⟩
      simp [(isKey_true.1 hkx).1]
    have HM := Lib.hid hmem
    have HK := Lib.hid hkx
    have HB := Lib.hid hb2
    obtain ⟨n, hn⟩ : ∃ n, es.length = n := ⟨_, rfl⟩
    rw [hn] at hj x0
    have j0 : (0 : Int) ≤ (j : Int) := by omega
    have j1 : (j : Int) < (n : Int) := by omega
    clear hf ht ht1 ht2 hs hb1 hb2 b2 kb hx hmem hkx hn hA0
    go_wp2_with fail
    go_region
    all_goals
      go_wp2
      refine bodyPost_ret (v := .tuple #[VK x.val, .int .i64 x.flags, .bool true]) ?_ rfl ⟨?_, .inl ⟨x, HM.out, HK.out, rfl⟩⟩
      · first | (simp [results, Tryd.results55, go_sem, r0, r1, r2, f0, f1, f2, lc]; done)
      · first | exact (((HB.out.setCell (p := ⟨w.heap.size + 1, 0, none⟩) (Nat.le_succ _) _).setCell (p := ⟨w.heap.size + 1, 1, none⟩) (Nat.le_succ _) _).setCell (p := ⟨w.heap.size + 1, 2, none⟩) (Nat.le_succ _) _).drew

/-! ### An entry written over -/
def setsAt (w : World) (g : Nat) : Nat → List Value → World
  | _, [] => w
  | off, a :: l => setsAt (w.setCell ⟨g, off, none⟩ a) g (off + 1) l
def setsL (xs : List Value) : Nat → List Value → List Value
  | _, [] => xs
  | off, a :: l => setsL (xs.set off a) (off + 1) l
theorem setsL_eq (xs : List Value) (off : Nat) (l : List Value) (h : off + l.length ≤ xs.length) : setsL xs off l = xs.take off ++ l ++ xs.drop (off + l.length) := by
  induction l generalizing xs off with
  | nil => simp [setsL]
  | cons a l ih =>
    rw [List.length_cons] at h
    rw [setsL, ih _ _ (by rw [List.length_set]; omega)]
    have h1 : (xs.set off a).take (off + 1) = xs.take off ++ [a] := by
      rw [List.take_add_one, List.take_set_of_le (Nat.le_refl _), List.getElem?_set_self (by omega)]; rfl
    have h2 : (xs.set off a).drop (off + 1 + l.length) = xs.drop (off + (l.length + 1)) := by
      rw [List.drop_set_of_lt (by omega)]; congr 1; omega
    rw [h1, h2, List.length_cons]
    simp
theorem sets_ents {es : List Ent} {j r : Nat} {e e' : Ent} {l : List Value} (he : es[j]? = some e) (hl : r + l.length ≤ 8) (h : entC e' = (entC e).take r ++ l ++ (entC e).drop (r + l.length)) : setsL (entsC es) (j * 8 + r) l = entsC (es.set j e') := by
  obtain ⟨hj, he'⟩ := List.getElem?_eq_some_iff.1 he
  have hlen := entsC_length es
  rw [setsL_eq _ _ _ (by rw [hlen]; omega)]
  have hs : es = es.take j ++ e :: es.drop (j + 1) := by rw [← he', ← List.drop_eq_getElem_cons hj, List.take_append_drop]
  have hset : es.set j e' = es.take j ++ e' :: es.drop (j + 1) := by
    rw [List.set_eq_take_append_cons_drop, if_pos hj]
  have hE : entsC es = entsC (es.take j) ++ (entC e ++ entsC (es.drop (j + 1))) := by
    conv => lhs; rw [hs, entsC_append]
    rfl
  have hE' : entsC (es.set j e') = entsC (es.take j) ++ (entC e' ++ entsC (es.drop (j + 1))) := by
    rw [hset, entsC_append]; rfl
  have h1 : (entsC (es.take j)).length = j * 8 := by rw [entsC_length, List.length_take, Nat.min_eq_left (by omega)]
  have h2 := entC_length e
  rw [hE', hE, h]
  rw [List.take_append, h1, List.take_of_length_le (by omega), Nat.add_sub_cancel_left, List.take_append, h2, show r - 8 = 0 by omega, List.take_zero, List.append_nil]
  rw [List.drop_append, h1, List.drop_of_length_le (by omega), List.nil_append, show j * 8 + r + l.length - j * 8 = r + l.length by omega, List.drop_append, h2, show r + l.length - 8 = 0 by omega, List.drop_zero]
  simp
theorem setsAt_own {w : World} {base : Nat} {e : TypeId} {size g n cap : Nat} {xs : List Value} (h : w.ownsRow base e size (.slice (some ⟨g, 0, none⟩) n cap) n xs) (off : Nat) (l : List Value) : (setsAt w g off l).ownsRow base e size (.slice (some ⟨g, 0, none⟩) n cap) n (setsL xs off l) := by
  induction l generalizing w xs off with
  | nil => exact h
  | cons a l ih => exact ih (World.ownsRow.stored h off a).1 (off + 1)
theorem setsAt_upd (w : World) (g off : Nat) (l : List Value) : Upd w (setsAt w g off l) (fun k => k = g) := by
  induction l generalizing w off with
  | nil => exact Upd.refl _ _
  | cons a l ih => exact ((Upd.refl w (fun k => k = g)).set g off a rfl).trans ((ih _ _).mono (fun k _ h => h))

/-- An entry anew. -/
theorem TabV.setEnt {w : World} {T g cap : Nat} {sv cv : Value} {es : List Ent} {sl : List Nat} {live : Nat} {cs : List (Nat × Nat)} {O : Nat → Prop} (h : TabV w T (.slice (some ⟨g, 0, none⟩) es.length cap) sv cv es sl live cs O) {j r : Nat} {e e' : Ent} {l : List Value}
    (he : es[j]? = some e) (hl : r + l.length ≤ 8) (hc : entC e' = (entC e).take r ++ l ++ (entC e).drop (r + l.length)) :
    TabV (setsAt w g (j * 8 + r) l) T (.slice (some ⟨g, 0, none⟩) es.length cap) sv cv (es.set j e') sl live cs O := by
  have u := setsAt_upd w g (j * 8 + r) l
  have hg : (Value.slice (some ⟨g, 0, none⟩) es.length cap).ownBlock = some g := rfl
  refine ⟨u.blk h.blk (fun e => own_blk_ne h.ents h.blk (by decide) (by rw [hg, ← e])), ?_, u.own h.slots (fun k hk e => own_own_ne h.slots h.ents (by decide) hg (by rw [← e]; exact hk)), u.own h.curs (fun k hk e => own_own_ne h.curs h.ents (by decide) hg (by rw [← e]; exact hk)),
    fun c hc => u.blk (h.cur c hc) (fun e => own_blk_ne h.ents (h.cur c hc) (by decide) (by rw [hg, ← e])), h.nodup, h.oT, h.oL, h.oS, h.oC, h.oc, fun k hk => Nat.lt_of_lt_of_le (h.oLt k hk) u.size⟩
  rw [List.length_set, ← sets_ents he hl hc]
  exact setsAt_own h.ents _ _
end Go.Proofs.YtdeboajjhpecbaaDoor
