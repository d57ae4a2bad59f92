/- Show: a tree of the machine's in memory, and how it is printed. -/
import Derived.Test.YtdeboajjhpecbaaGreatDoorShZu
import Derived.Test.YtdeboajjhpecbaaGreatDoorShZt
set_option linter.unusedVariables false
set_option linter.unusedSimpArgs false
namespace Go.Proofs.YtdeboajjhpecbaaGreatDoor.Hp
open Go.RowKit Go.Proofs.YtdeboajjhpecbaaGreatDoor Go.Shelf
theorem isMark (v : Value) (w : World) : (Instr.typeAssert (.iface tMark v) 93 tMark true).run Tryz.prog w = .ok (.tuple #[v, .bool true]) w := by
  kernel_rfl
/-- A cell has a symbol. -/
def MarkAt (cs : List Cell) (r : Int) (b : Nat) : Prop := 1 ≤ r ∧ r ≤ cs.length ∧ (cs.getD (r - 1).toNat (none, false)).1 = some (tMark, b)
theorem MarkAt.get {cs : List Cell} {r : Int} {b : Nat} (h : MarkAt cs r b) : getV cs r = .iface tMark (.pointer (some ⟨b, 0, none⟩)) := by
  unfold getV
  rw [if_pos ⟨h.1, h.2.1⟩, h.2.2]
  rfl
theorem MarkAt.app {cs ds : List Cell} {r : Int} {b : Nat} (h : MarkAt cs r b) : MarkAt (cs ++ ds) r b := by
  obtain ⟨h1, h2, h3⟩ := h
  have hl : (r - 1).toNat < cs.length := by omega
  exact ⟨h1, by simp; omega, by rw [show (cs ++ ds).getD (r - 1).toNat (none, false) = cs.getD (r - 1).toNat (none, false) by simp only [List.getD, List.getElem?_append_left hl]]; exact h3⟩
theorem MarkAt.last (cs : List Cell) (b : Nat) : MarkAt (cs ++ [(some (tMark, b), false)]) ((cs.length + 1 : Nat) : Int) b := by
  have h2 : (((cs.length + 1 : Nat) : Int) - 1).toNat = cs.length := by omega
  refine ⟨by omega, by simp, ?_⟩
  rw [h2]
  simp
set_option maxRecDepth 100000 in
set_option maxHeartbeats 8000000 in
theorem show_sym {N : Nat} {w : World} {m H A B : Nat} {cv : Value} {cs : List Cell} {ps : List Int} (hM : Ms N w m H A B cv cs ps) (hc : cs.length ≤ 4000) (r : Int) (s : ByteArray) (b : Nat) (l : List Nat) (deep : Int) (hr : MarkAt cs r b) (hb : Blk w b 99 #[.int .i64 7, .int .i64 0, .string (Tx.uS l)]) (hf : Tx.Fits l) (hl : l.length ≤ 1000) :
    Calls Tryz.prog 20 #[.pointer (some ⟨m, 0, none⟩), VS 8 r s, .int .i64 deep] w (ShwP ⟨(symB l).toArray⟩ w) := by
  have b0 : Below w.heap.size w (w.alloc (.cells #[.int .i64 8, .int .i64 r, .string s] 30)) := (Below.refl _ _).alloc (Nat.le_refl _) _
  have bx := Blk.new w 30 #[.int .i64 8, .int .i64 r, .string s]
  have h2 := hM.below b0
  have HS : Hid ((w.alloc (.cells #[.int .i64 8, .int .i64 r, .string s] 30)).cell? ⟨m, 0, none⟩ = some (.pointer (some ⟨H, 0, none⟩)) ∧ (w.alloc (.cells #[.int .i64 8, .int .i64 r, .string s] 30)).cell? ⟨H, 0, none⟩ = some (.pointer (some ⟨A, 0, none⟩)) ∧ (w.alloc (.cells #[.int .i64 8, .int .i64 r, .string s] 30)).cell? ⟨w.heap.size, 1, none⟩ = some (.int .i64 r)) :=
    Lib.hid ⟨by rw [h2.mb.cell]; rfl, by rw [h2.hx.hb.cell]; rfl, by rw [bx.cell]; rfl⟩
  have y0 : (w.alloc (.cells #[.int .i64 8, .int .i64 r, .string s] 30)).cell? ⟨w.heap.size, 0, none⟩ = some (.int .i64 8) := by rw [bx.cell]; rfl
  have HB := Lib.hid (And.intro b0 (And.intro h2 (hb.below b0 hb.lt)))
  have HF := Lib.hid (And.intro hf hl)
  have HR := Lib.hid hr
  have hg := goU_len l
  obtain ⟨gl, hgl⟩ : ∃ g, goU l = g := ⟨_, rfl⟩
  have hsy : symB l = [83, 121, 109, 98, 111, 108, 40] ++ gl ++ [41] := by unfold symB; rw [hgl]
  rw [hgl] at hg
  rw [hsy]
  have HGL := Lib.hid hgl
  have t1 : ¬ 9223372036854775807 < 7 + gl.length := by omega
  have t2 : ¬ 9223372036854775807 < 7 + gl.length + 1 := by omega
  have t3 : ¬ 9223372036854775807 < gl.length + 1 + 1 + 1 + 1 + 1 + 1 + 1 := by omega
  have t4 : ¬ 9223372036854775807 < gl.length + 1 + 1 + 1 + 1 + 1 + 1 + 1 + 1 := by omega
  clear b0 hf hl hb hM h2 bx hr hg hgl hsy
  go_enter Tryz.func20, Tryz.ntmps20
  go_upto_region 3 with fail
  clear y0
  generalize w.alloc (.cells #[.int .i64 8, .int .i64 r, .string s] 30) = W1 at *
  refine wp_var0 (fun KV HKV => ?_)
  refine wp_region_till (m := 9) (S := (fun W => W.cell? ⟨m, 0, none⟩ = some (.pointer (some ⟨H, 0, none⟩)) ∧ W.cell? ⟨H, 0, none⟩ = some (.pointer (some ⟨A, 0, none⟩)) ∧ W.cell? ⟨w.heap.size, 1, none⟩ = some (.int .i64 r))) (by kernel_rfl) ?_
  have e4 : W1.drew = W1.drewN 1 := rfl
  rw [e4]
  have S0 : (W1.drewN 1).cell? ⟨m, 0, none⟩ = some (.pointer (some ⟨H, 0, none⟩)) ∧ (W1.drewN 1).cell? ⟨H, 0, none⟩ = some (.pointer (some ⟨A, 0, none⟩)) ∧ (W1.drewN 1).cell? ⟨w.heap.size, 1, none⟩ = some (.int .i64 r) := HS.out
  have HD := Lib.hid (And.intro (below_drw HB.out.1 1) (And.intro (HB.out.2.1.drewN 1) (HB.out.2.2.drewN 1)))
  clear e4 HS HB
  generalize W1.drewN 1 = E1 at *
  change tillH _ _ _ _ _ _ 16 #[false, false, false, false, false, false, false, false, false, false, false, false, false, false, false, false] _ _
  refine tillH_takeAny (i := 0) (oi := ?oo1) (v := ?vv1) ?hi1 (by kernel_rfl) (by kernel_rfl) (by kernel_rfl) ?hq1 (by kernel_rfl) ?hy1 (fun _ => S0) ?hh1
  case hi1 => (simp only [List.getElem?_toArray, List.getElem?_cons_succ, List.getElem?_cons_zero]; rfl)
  case hq1 => exact fun _ _ _ h => h
  case hy1 => exact Or.inl ⟨by rfl, by (intro W; go_simp; (try with_reducible rfl))⟩
  (try simp only [Act.put, List.setIfInBounds_toArray, List.set_cons_zero, List.set_cons_succ])
  refine tillH_takeAny (i := 1) (oi := ?oo2) (v := ?vv2) ?hi2 (by kernel_rfl) (by kernel_rfl) (by kernel_rfl) ?hq2 (by kernel_rfl) ?hy2 (fun _ => S0) ?hh2
  case hi2 => (simp only [List.getElem?_toArray, List.getElem?_cons_succ, List.getElem?_cons_zero]; rfl)
  case hq2 => exact fun _ _ _ h => h
  case hy2 => exact Or.inl ⟨by rfl, by (intro W; go_simp; (try with_reducible rfl))⟩
  (try simp only [Act.put, List.setIfInBounds_toArray, List.set_cons_zero, List.set_cons_succ])
  refine tillH_takeAny (i := 2) (oi := ?oo3) (v := ?vv3) ?hi3 (by kernel_rfl) (by kernel_rfl) (by kernel_rfl) ?hq3 (by kernel_rfl) ?hy3 (fun _ => S0) ?hh3
  case hi3 => (simp only [List.getElem?_toArray, List.getElem?_cons_succ, List.getElem?_cons_zero]; rfl)
  case hq3 => exact fun _ _ _ h => h
  case hy3 => exact Or.inl ⟨by rfl, by (intro W; go_simp; (try with_reducible rfl))⟩
  (try simp only [Act.put, List.setIfInBounds_toArray, List.set_cons_zero, List.set_cons_succ])
  refine tillH_takeC [6, 5, 4] (i := 3) (oi := ?oo4) (v := ?vv4) ?hi4 (by kernel_rfl) (by kernel_rfl) (by kernel_rfl) ?hq4 (by kernel_rfl) (by kernel_rfl) (by kernel_rfl) ?hy4 S0 ?hh4
  case hi4 => (simp only [List.getElem?_toArray, List.getElem?_cons_succ, List.getElem?_cons_zero]; rfl)
  case hq4 => exact fun _ _ _ h => h
  case hy4 => exact Or.inl ⟨by rfl, by (intro W hSw; (try obtain ⟨s0, s1, s2⟩ := hSw); go_simp; (try with_reducible rfl))⟩
  (try simp only [Act.put, List.setIfInBounds_toArray, List.set_cons_zero, List.set_cons_succ])
  refine tillH_takeAny (i := 4) (oi := ?oo5) (v := ?vv5) ?hi5 (by kernel_rfl) (by kernel_rfl) (by kernel_rfl) ?hq5 (by kernel_rfl) ?hy5 (fun _ => S0) ?hh5
  case hi5 => (simp only [List.getElem?_toArray, List.getElem?_cons_succ, List.getElem?_cons_zero]; rfl)
  case hq5 => exact fun _ _ _ h => h
  case hy5 => exact Or.inl ⟨by rfl, by (intro W; go_simp; (try with_reducible rfl))⟩
  (try simp only [Act.put, List.setIfInBounds_toArray, List.set_cons_zero, List.set_cons_succ])
  refine tillH_takeAny (i := 5) (oi := ?oo6) (v := ?vv6) ?hi6 (by kernel_rfl) (by kernel_rfl) (by kernel_rfl) ?hq6 (by kernel_rfl) ?hy6 (fun _ => S0) ?hh6
  case hi6 => (simp only [List.getElem?_toArray, List.getElem?_cons_succ, List.getElem?_cons_zero]; rfl)
  case hq6 => exact fun _ _ _ h => h
  case hy6 => exact Or.inl ⟨by rfl, by (intro W; go_simp; (try with_reducible rfl))⟩
  (try simp only [Act.put, List.setIfInBounds_toArray, List.set_cons_zero, List.set_cons_succ])
  refine tillH_take (i := 6) (oi := ?oo7) (v := ?vv7) ?hi7 (by kernel_rfl) (by kernel_rfl) (by kernel_rfl) ?hq7 (by kernel_rfl) (by kernel_rfl) (by kernel_rfl) ?hy7 S0 ?hh7
  case hi7 => (simp only [List.getElem?_toArray, List.getElem?_cons_succ, List.getElem?_cons_zero]; rfl)
  case hq7 => exact fun _ _ _ h => h
  case hy7 => exact Or.inl ⟨by rfl, by (intro W hSw; (try obtain ⟨s0, s1, s2⟩ := hSw); go_simp; (try with_reducible rfl))⟩
  (try simp only [Act.put, List.setIfInBounds_toArray, List.set_cons_zero, List.set_cons_succ])
  refine tillH_takeAny (i := 7) (oi := ?oo8) (v := ?vv8) ?hi8 (by kernel_rfl) (by kernel_rfl) (by kernel_rfl) ?hq8 (by kernel_rfl) ?hy8 (fun _ => S0) ?hh8
  case hi8 => (simp only [List.getElem?_toArray, List.getElem?_cons_succ, List.getElem?_cons_zero]; rfl)
  case hq8 => exact fun _ _ _ h => h
  case hy8 => exact Or.inl ⟨by rfl, by (intro W; go_simp; (try with_reducible rfl))⟩
  (try simp only [Act.put, List.setIfInBounds_toArray, List.set_cons_zero, List.set_cons_succ])
  refine tillH_take (i := 8) (oi := ?oo9) (v := ?vv9) ?hi9 (by kernel_rfl) (by kernel_rfl) (by kernel_rfl) ?hq9 (by kernel_rfl) (by kernel_rfl) (by kernel_rfl) ?hy9 S0 ?hh9
  case hi9 => (simp only [List.getElem?_toArray, List.getElem?_cons_succ, List.getElem?_cons_zero]; rfl)
  case hq9 => exact fun _ _ _ h => h
  case hy9 => exact Or.inl ⟨by rfl, by (intro W hSw; (try obtain ⟨s0, s1, s2⟩ := hSw); go_simp; (try with_reducible rfl))⟩
  (try simp only [Act.put, List.setIfInBounds_toArray, List.set_cons_zero, List.set_cons_succ])
  refine tillH_next (rs := [9]) (by kernel_rfl) (by simp) ?_
  refine NextH.cons rfl (fun K hK => ?_) NextH.nil
  go_simp
  refine (get_any r HD.out.2.1.hx.ar (by omega)).mono ?_
  rintro e E2 ⟨rfl, q, rfl⟩
  rw [HR.out.get]
  have hmk := fun (v : Value) (W : World) => isMark v W
  have HE := Lib.hid (And.intro (below_drw HD.out.1 q) (HD.out.2.2.drewN q))
  clear HD S0
  generalize E1.drewN q = E2 at *
  refine hK.out _ _ (fun h => absurd h (by simp)) ?_
  clear hK K
  (try simp only [Act.put, List.setIfInBounds_toArray, List.set_cons_zero, List.set_cons_succ])
  refine tillH_takeAny (i := 10) (oi := ?oo10) (v := ?vv10) ?hi10 (by kernel_rfl) (by kernel_rfl) (by kernel_rfl) ?hq10 (by kernel_rfl) ?hy10 (fun h => absurd h (by simp)) ?hh10
  case hi10 => (simp only [List.getElem?_toArray, List.getElem?_cons_succ, List.getElem?_cons_zero]; rfl)
  case hq10 => exact fun _ _ _ h => h
  case hy10 => exact Or.inl ⟨by rfl, by (intro W; go_simp; (try with_reducible rfl))⟩
  (try simp only [Act.put, List.setIfInBounds_toArray, List.set_cons_zero, List.set_cons_succ])
  refine tillH_takeAny (i := 11) (oi := ?oo11) (v := ?vv11) ?hi11 (by kernel_rfl) (by kernel_rfl) (by kernel_rfl) ?hq11 (by kernel_rfl) ?hy11 (fun h => absurd h (by simp)) ?hh11
  case hi11 => (simp only [List.getElem?_toArray, List.getElem?_cons_succ, List.getElem?_cons_zero]; rfl)
  case hq11 => exact fun _ _ _ h => h
  case hy11 => exact Or.inl ⟨by rfl, by (intro W; go_simp; (try with_reducible rfl))⟩
  (try simp only [Act.put, List.setIfInBounds_toArray, List.set_cons_zero, List.set_cons_succ])
  refine tillH_takeAny (i := 12) (oi := ?oo12) (v := ?vv12) ?hi12 (by kernel_rfl) (by kernel_rfl) (by kernel_rfl) ?hq12 (by kernel_rfl) ?hy12 (fun h => absurd h (by simp)) ?hh12
  case hi12 => (simp only [List.getElem?_toArray, List.getElem?_cons_succ, List.getElem?_cons_zero]; rfl)
  case hq12 => exact fun _ _ _ h => h
  case hy12 => exact Or.inl ⟨by rfl, by (intro W; go_simp; (try with_reducible rfl))⟩
  (try simp only [Act.put, List.setIfInBounds_toArray, List.set_cons_zero, List.set_cons_succ])
  refine tillH_takeAny (i := 13) (oi := ?oo13) (v := ?vv13) ?hi13 (by kernel_rfl) (by kernel_rfl) (by kernel_rfl) ?hq13 (by kernel_rfl) ?hy13 (fun h => absurd h (by simp)) ?hh13
  case hi13 => (simp only [List.getElem?_toArray, List.getElem?_cons_succ, List.getElem?_cons_zero]; rfl)
  case hq13 => exact fun _ _ _ h => h
  case hy13 => exact Or.inl ⟨by rfl, by (intro W; go_simp; (try with_reducible rfl))⟩
  (try simp only [Act.put, List.setIfInBounds_toArray, List.set_cons_zero, List.set_cons_succ])
  refine tillH_takeAny (i := 14) (oi := ?oo14) (v := ?vv14) ?hi14 (by kernel_rfl) (by kernel_rfl) (by kernel_rfl) ?hq14 (by kernel_rfl) ?hy14 (fun h => absurd h (by simp)) ?hh14
  case hi14 => (simp only [List.getElem?_toArray, List.getElem?_cons_succ, List.getElem?_cons_zero]; rfl)
  case hq14 => exact fun _ _ _ h => h
  case hy14 => exact Or.inl ⟨by rfl, by (intro W; go_simp; (try with_reducible rfl))⟩
  (try simp only [Act.put, List.setIfInBounds_toArray, List.set_cons_zero, List.set_cons_succ])
  refine tillH_takeAny (i := 15) (oi := ?oo15) (v := ?vv15) ?hi15 (by kernel_rfl) (by kernel_rfl) (by kernel_rfl) ?hq15 (by kernel_rfl) ?hy15 (fun h => absurd h (by simp)) ?hh15
  case hi15 => (simp only [List.getElem?_toArray, List.getElem?_cons_succ, List.getElem?_cons_zero]; rfl)
  case hq15 => exact fun _ _ _ h => h
  case hy15 => exact Or.inl ⟨by rfl, by (intro W; go_simp; (try with_reducible rfl))⟩
  (try simp only [Act.put, List.setIfInBounds_toArray, List.set_cons_zero, List.set_cons_succ])
  refine tillH_done (by kernel_rfl) ?_ _
  refine HKV.out _ _ ?_
  clear hmk
  have c0 : E2.cell? ⟨b, 0, none⟩ = some (.int .i64 7) := by rw [HE.out.2.cell]; rfl
  have c2 : E2.cell? ⟨b, 2, none⟩ = some (.string (Tx.uS l)) := by rw [HE.out.2.cell]; rfl
  go_wp2_with (fail)
  refine (Tx.go_uS l HF.out.1 E2 (by have := HF.out.2; omega)).mono ?_
  rintro e E3 ⟨rfl, b3⟩
  have HE3 := Lib.hid (HE.out.1.trans (b3.mono HE.out.1.size))
  rw [show Tx.goB (Tx.signs l) = gl from HGL.out]
  clear b3 HE c0 c2
  go_wp2_with (fail)
  go_ret
  exact ⟨congrArg (fun b => Ending.returned (.string b)) (ByteArray.ext (by first | rfl | (apply Array.ext'; simp [ByteArray.data_append]))), HE3.out⟩
/-- An array of the machine's. -/
def ArrM (w : World) (cs : List Cell) (E : Nat → Prop) (v : K3) (L : List K3) : Prop :=
  ∃ r b T a cap pr, v = (9, r, ⟨#[]⟩) ∧ objP cs r = .pointer (some ⟨b, 0, none⟩) ∧ Blk w b 85 (objA 1 pr false T (.slice a L.length cap) nilP nilP nilS 0) ∧ ¬ E b ∧
    (0 < L.length → ∃ g V, a = some ⟨g, 0, none⟩ ∧ Blk w g 30 V ∧ ¬ E g ∧ ∀ i, i < L.length * 3 → V[i]? = (valsC L)[i]?)
/-- A tree of the machine's; E: blocks that are not its own. -/
def Lies (w : World) (cs : List Cell) (E : Nat → Prop) : Tr → K3 → Prop
  | .lf k n l, v => v = (k, n, Tx.uS l)
  | .sy l, v => ∃ r b, v = (8, r, ⟨#[]⟩) ∧ MarkAt cs r b ∧ Blk w b 99 #[.int .i64 7, .int .i64 0, .string (Tx.uS l)] ∧ ¬ E b
  | .ob c, v => ∃ r b T, v = (9, r, ⟨#[]⟩) ∧ objP cs r = .pointer (some ⟨b, 0, none⟩) ∧ Blk w b 85 (objN (c : Int) 0 T) ∧ ¬ E b
  | .ar0, v => ArrM w cs E v []
  | .ar1 a, v => ∃ x, ArrM w cs E v [x] ∧ Lies w cs E a x
  | .ar2 a b, v => ∃ x y, ArrM w cs E v [x, y] ∧ Lies w cs E a x ∧ Lies w cs E b y
  | .ar3 a b c, v => ∃ x y z, ArrM w cs E v [x, y, z] ∧ Lies w cs E a x ∧ Lies w cs E b y ∧ Lies w cs E c z
theorem objP_apps (cs ds : List Cell) (r : Int) (b : Nat) (h : objP cs r = .pointer (some ⟨b, 0, none⟩)) : objP (cs ++ ds) r = .pointer (some ⟨b, 0, none⟩) := by
  induction ds generalizing cs with
  | nil => rwa [List.append_nil]
  | cons x ds ih =>
    rw [show cs ++ x :: ds = (cs ++ [x]) ++ ds by simp]
    exact ih _ (objP_app cs x r b h)
theorem ArrM.keep {w w' : World} {cs : List Cell} {E E' : Nat → Prop} {v : K3} {L : List K3} (h : ArrM w cs E v L) (ds : List Cell) (hE : ∀ x, x < w.heap.size → E' x → E x) (hK : KpE E w w') : ArrM w' (cs ++ ds) E' v L := by
  obtain ⟨r, b, T, a, cap, pr, h1, h2, h3, h4, h5⟩ := h
  refine ⟨r, b, T, a, cap, pr, h1, objP_apps cs ds r b h2, hK _ _ _ h3 (by simp) h4, fun e => h4 (hE _ h3.lt e), fun hn => ?_⟩
  obtain ⟨g, V, e1, e2, e3, e4⟩ := h5 hn
  exact ⟨g, V, e1, hK _ _ _ e2 (by simp) e3, fun e => e3 (hE _ e2.lt e), e4⟩
theorem Lies.keep {w w' : World} {cs : List Cell} {E E' : Nat → Prop} (ds : List Cell) (hE : ∀ x, x < w.heap.size → E' x → E x) (hK : KpE E w w') : ∀ {t : Tr} {v : K3}, Lies w cs E t v → Lies w' (cs ++ ds) E' t v
  | .lf k n l, v, h => h
  | .sy l, v, h => by obtain ⟨r, b, h1, h2, h3, h4⟩ := h; exact ⟨r, b, h1, h2.app, hK _ _ _ h3 (by simp) h4, fun e => h4 (hE _ h3.lt e)⟩
  | .ob c, v, h => by obtain ⟨r, b, T, h1, h2, h3, h4⟩ := h; exact ⟨r, b, T, h1, objP_apps cs ds r b h2, hK _ _ _ h3 (by simp) h4, fun e => h4 (hE _ h3.lt e)⟩
  | .ar0, v, h => ArrM.keep h ds hE hK
  | .ar1 a, v, h => by obtain ⟨x, h1, h2⟩ := h; exact ⟨x, h1.keep ds hE hK, h2.keep ds hE hK⟩
  | .ar2 a b, v, h => by obtain ⟨x, y, h1, h2, h3⟩ := h; exact ⟨x, y, h1.keep ds hE hK, h2.keep ds hE hK, h3.keep ds hE hK⟩
  | .ar3 a b c, v, h => by obtain ⟨x, y, z, h1, h2, h3, h4⟩ := h; exact ⟨x, y, z, h1.keep ds hE hK, h2.keep ds hE hK, h3.keep ds hE hK, h4.keep ds hE hK⟩
theorem Lies.stay {w w' : World} {cs : List Cell} {E E' : Nat → Prop} (hE : ∀ x, x < w.heap.size → E' x → E x) (hK : KpE E w w') {t : Tr} {v : K3} (h : Lies w cs E t v) : Lies w' cs E' t v := by
  have := h.keep [] hE hK
  rwa [List.append_nil] at this
section
variable {N : Nat} {w : World} {m H A B : Nat} {cv : Value} {cs : List Cell} {ps : List Int} {E : Nat → Prop}
theorem arrM_show (hM : Ms N w m H A B cv cs ps) (hc : cs.length ≤ 4000) {v : K3} {L : List K3} {ss : List (List UInt8)} {d : Nat} (h : ArrM w cs E v L) (hl : ss.length = L.length) (hn : L.length ≤ 1000) (hsz : d ≤ 2 → (jn ss).length ≤ 16000) (hd3 : d ≤ 3)
    (hS : d ≤ 2 → ∀ (i : Nat) k, L[i]? = some k → ∀ W, Below w.heap.size w W → Calls Tryz.prog 20 #[.pointer (some ⟨m, 0, none⟩), VK k, .int .i64 ((d : Int) + 1)] W (ShwP ⟨(ss.getD i []).toArray⟩ W)) :
    ∀ W, Below w.heap.size w W → Calls Tryz.prog 20 #[.pointer (some ⟨m, 0, none⟩), VK v, .int .i64 (d : Int)] W (ShwP ⟨(if d > 2 then dots else brk ss).toArray⟩ W) := by
  intro W hW
  obtain ⟨r, b, T, a, cap, pr, rfl, h2, h3, h4, h5⟩ := h
  refine show_obj m r ⟨#[]⟩ _ _ W (fun W2 h6 => ?_)
  have hb2 := hW.trans (h6.mono hW.size)
  have hM2 := hM.below hb2
  have hOf : ∀ W3, Below W2.heap.size W2 W3 → Calls Tryz.prog 46 #[.pointer (some ⟨H, 0, none⟩), VS 9 r ⟨#[]⟩] W3 fun e W' => e = .returned (.pointer (some ⟨b, 0, none⟩)) ∧ Below W3.heap.size W3 W' := fun W3 h7 => by
    have := of_obj r ⟨#[]⟩ (hM2.below h7).hx (by omega) hM.hk
    rw [h2] at this
    exact this
  by_cases hd : d > 2
  · rw [if_pos hd]
    exact object_deep (H := H) (b := b) (by simp; omega) (by rw [hM2.mb.cell]; rfl) (h3.below hb2 h3.lt) hOf
  · rw [if_neg hd]
    refine object_arrayA (H := H) (b := b) (L := L) (by simp; omega) (by omega) (by rw [hM2.mb.cell]; rfl) (h3.below hb2 h3.lt) hOf (fun i k hk => ?_) hl hn (hsz (by omega)) (fun i k hk W4 h7 => hS (by omega) i k hk W4 (hb2.trans (h7.mono hb2.size)))
    have hi : i < L.length := by
      rcases Nat.lt_or_ge i L.length with h | h
      · exact h
      · rw [List.getElem?_eq_none h] at hk; cases hk
    obtain ⟨g, V, rfl, e2, e3, e4⟩ := h5 (by omega)
    have e5 := e2.below hb2 e2.lt
    have hv := valsC_at L i k hk
    exact ⟨g, rfl, by rw [e5.cell, e4 _ (by omega)]; exact hv.1, by rw [e5.cell, e4 _ (by omega)]; exact hv.2.1, by rw [e5.cell, e4 _ (by omega)]; exact hv.2.2⟩
/-- How a tree of the machine's is printed. -/
theorem lies_show (hM : Ms N w m H A B cv cs ps) (hc : cs.length ≤ 4000) (hT : Tbs w) (hF : Fb w) : ∀ (t : Tr) (v : K3) (d : Nat), Lies w cs E t v → OkT t → unT t ≤ 1000 → d ≤ 3 → ∀ W, Below w.heap.size w W → Calls Tryz.prog 20 #[.pointer (some ⟨m, 0, none⟩), VK v, .int .i64 (d : Int)] W (ShwP ⟨(prT t d).toArray⟩ W)
  | .lf k n l, v, d, h, ok, hu, hd, W, hW => by
    obtain rfl : v = (k, n, Tx.uS l) := h
    show Calls _ _ _ W (ShwP ⟨(if k = 10 then [] else goU (ulF k n l)).toArray⟩ W)
    by_cases h10 : k = 10
    · subst h10
      rw [if_pos rfl]
      exact show_empty m n _ _ W
    · rw [if_neg h10]
      have h1 := ulF_len k n l ok h10
      have h3 : l.length ≤ 600 := ok.len
      refine show_plain m k n _ (Tx.uS (ulF k n l)) _ _ W ok.k8 (by simpa using h10) ok.k9 (fun W2 h5 => ?_) (fun W2 => Tx.go_uS (ulF k n l) (ulF_fits k n l ok) W2 (by omega))
      have hb := hW.trans (h5.mono hW.size)
      have := Vx.text_any k n (Tx.uS l) W2 ok.v (hT.below hb).1
      rw [textF_lf k n l ok h10] at this
      exact this
  | .sy l, v, d, h, ok, hu, hd, W, hW => by
    obtain ⟨r, b, rfl, h2, h3, h4⟩ := h
    have h5 : l.length ≤ 600 := ok.2
    exact show_sym (hM.below hW) hc r _ b l _ h2 (h3.below hW h3.lt) ok.1 (by omega)
  | .ob c, v, d, h, ok, hu, hd, W, hW => by
    obtain ⟨r, b, T, rfl, h2, h3, h4⟩ := h
    refine show_obj m r ⟨#[]⟩ _ _ W (fun W2 h6 => ?_)
    have hb2 := hW.trans (h6.mono hW.size)
    have hM2 := hM.below hb2
    have okc : c = 0 ∨ c = 3 ∨ c = 4 ∨ c = 6 ∨ c = 7 ∨ c = 8 ∨ c = 9 ∨ c = 10 ∨ c = 11 := ok
    refine object_cls (H := H) (b := b) (c := c) (C := (c : Int)) rfl (by omega) (by simp; omega) (by simp; omega) (by simp; omega) (by rw [hM2.mb.cell]; rfl) (h3.below hb2 h3.lt) (fun W3 h7 => hF.below (hb2.trans (h7.mono hb2.size))) (fun W3 h7 => ?_)
    have := of_obj r ⟨#[]⟩ (hM2.below h7).hx (by omega) hM.hk
    rw [h2] at this
    exact this
  | .ar0, v, d, h, ok, hu, hd, W, hW => arrM_show hM hc h (ss := []) rfl (by simp) (fun _ => by decide) hd (fun _ i k hk => by simp at hk) W hW
  | .ar1 a, v, d, h, ok, hu, hd, W, hW => by
    obtain ⟨x, h1, h2⟩ := h
    have hu' : unT a ≤ 1000 := hu
    have l1 := prT_len a (d + 1) ok
    refine arrM_show hM hc h1 (ss := [prT a (d + 1)]) rfl (by simp) (fun hd2 => ?_) hd (fun hd2 i k hk W2 h5 => ?_) W hW
    · have := lenC_step d (by omega)
      have c0 : lenC d ≤ 7400 := by match d, hd2 with | 0, _ => decide | 1, _ => decide | 2, _ => decide
      show (prT a (d + 1)).length ≤ _; omega
    · match i, hk with
      | 0, hk =>
        simp at hk; subst hk
        exact lies_show hM hc hT hF a x (d + 1) h2 ok hu' (by omega) W2 h5
  | .ar2 a b, v, d, h, ok, hu, hd, W, hW => by
    obtain ⟨x, y, h1, h2, h3⟩ := h
    have hu' : unT a + unT b ≤ 1000 := hu
    have l1 := prT_len a (d + 1) ok.1
    have l2 := prT_len b (d + 1) ok.2
    refine arrM_show hM hc h1 (ss := [prT a (d + 1), prT b (d + 1)]) rfl (by simp) (fun hd2 => ?_) hd (fun hd2 i k hk W2 h5 => ?_) W hW
    · have := lenC_step d (by omega)
      have c0 : lenC d ≤ 7400 := by match d, hd2 with | 0, _ => decide | 1, _ => decide | 2, _ => decide
      show (prT a (d + 1) ++ [44, 32] ++ prT b (d + 1)).length ≤ _
      simp only [List.length_append, List.length_cons, List.length_nil]; omega
    · match i, hk with
      | 0, hk =>
        simp at hk; subst hk
        exact lies_show hM hc hT hF a x (d + 1) h2 ok.1 (by omega) (by omega) W2 h5
      | 1, hk =>
        simp at hk; subst hk
        exact lies_show hM hc hT hF b y (d + 1) h3 ok.2 (by omega) (by omega) W2 h5
  | .ar3 a b c, v, d, h, ok, hu, hd, W, hW => by
    obtain ⟨x, y, z, h1, h2, h3, h4⟩ := h
    have hu' : unT a + unT b + unT c ≤ 1000 := hu
    have l1 := prT_len a (d + 1) ok.1
    have l2 := prT_len b (d + 1) ok.2.1
    have l3 := prT_len c (d + 1) ok.2.2
    refine arrM_show hM hc h1 (ss := [prT a (d + 1), prT b (d + 1), prT c (d + 1)]) rfl (by simp) (fun hd2 => ?_) hd (fun hd2 i k hk W2 h5 => ?_) W hW
    · have := lenC_step d (by omega)
      have c0 : lenC d ≤ 7400 := by match d, hd2 with | 0, _ => decide | 1, _ => decide | 2, _ => decide
      show (prT a (d + 1) ++ [44, 32] ++ (prT b (d + 1) ++ [44, 32] ++ prT c (d + 1))).length ≤ _
      simp only [List.length_append, List.length_cons, List.length_nil]; omega
    · match i, hk with
      | 0, hk =>
        simp at hk; subst hk
        exact lies_show hM hc hT hF a x (d + 1) h2 ok.1 (by omega) (by omega) W2 h5
      | 1, hk =>
        simp at hk; subst hk
        exact lies_show hM hc hT hF b y (d + 1) h3 ok.2.1 (by omega) (by omega) W2 h5
      | 2, hk =>
        simp at hk; subst hk
        exact lies_show hM hc hT hF c z (d + 1) h4 ok.2.2 (by omega) (by omega) W2 h5
end
end Go.Proofs.YtdeboajjhpecbaaGreatDoor.Hp
