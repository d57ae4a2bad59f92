/- ShB: several texts in one. -/
import Derived.Test.YtdeboajjhpecbaaGreatDoorHpB
import Derived.Test.YtdeboajjhpecbaaGreatDoorOrdC
import Derived.Test.YtdeboajjhpecbaaGreatDoorHpQ
import Derived.BigQuiet
/- Show: Of, the machine: New, its prototypes. -/
set_option linter.unusedVariables false
set_option linter.unusedSimpArgs false
namespace Go.Proofs.YtdeboajjhpecbaaGreatDoor.Hp
open Go.RowKit Go.Proofs.YtdeboajjhpecbaaGreatDoor Go.Shelf

set_option maxHeartbeats 1000000 in
theorem of_no (H : Nat) (k n : Int) (s : ByteArray) (w : World) (hk : k ≠ 9) : Calls Tryz.prog 46 #[.pointer (some ⟨H, 0, none⟩), VS k n s] w fun e w' => e = .returned (.pointer none) ∧ Below w.heap.size w w' := by
  have t1 : (k != 9) = true := by simpa using hk
  go_enter Tryz.func46, Tryz.ntmps46
  go_wp2
  go_ret
  exact ⟨rfl, (Below.refl _ _).alloc (Nat.le_refl _) _⟩
theorem getV_objS (cs : List Cell) (r : Int) (hk : ∀ i n, (cs.getD i (none, false)).1 = some n → n.1 = tObj ∨ n.1 = tMark) (w : World) : ∃ b, (Instr.typeAssert (getV cs r) 93 tObj true).run Tryz.prog w = .ok (.tuple #[objP cs r, .bool b]) w := by
  unfold getV objP
  split
  · rename_i h
    cases hc : (cs.getD (r - 1).toNat (none, false)).1 with
    | none => exact ⟨_, isObj_nil w⟩
    | some n =>
      rcases hk _ n hc with e | e
      · simp only [bodyV, e]
        exact ⟨_, isObj _ w⟩
      · simp only [bodyV, e]
        exact ⟨_, isObj_mark _ w⟩
  · exact ⟨_, isObj_nil w⟩
set_option maxHeartbeats 1000000 in
theorem obj_anyS {w : World} {H A B : Nat} {cv fv rv : Value} {cs : List Cell} {fr ro : List Int} {live : Int} (r : Int) (h : Hx w H A B cv fv rv cs fr ro live) (hl : cs.length ≤ 100000000) (hk : ∀ i n, (cs.getD i (none, false)).1 = some n → n.1 = tObj ∨ n.1 = tMark) :
    Calls Tryz.prog 15 #[.pointer (some ⟨H, 0, none⟩), .int .i64 r] w fun e w' => e = .returned (objP cs r) ∧ ∃ q, w' = w.drewN q := by
  have y0 : w.cell? ⟨H, 0, none⟩ = some (.pointer (some ⟨A, 0, none⟩)) := by rw [h.hb.cell]; rfl
  have HX := Lib.hid h
  clear h
  go_enter Tryz.func15, Tryz.ntmps15
  go_wp2_with (fail)
  refine (get_any r HX.out.ar hl).mono ?_
  rintro e w1 ⟨rfl, q, rfl⟩
  have ha := getV_objS cs r hk
  generalize getV cs r = gv at *
  generalize hov : objP cs r = ov at *
  have HV := Lib.hid hov
  clear hk hov
  have hat := ha (w.drewN q)
  obtain ⟨bb, hat⟩ := hat
  go_wp2
  go_ret
  exact ⟨by rw [HV.out]; rfl, q, rfl⟩
set_option maxHeartbeats 1000000 in
theorem of_obj {w : World} {H A B : Nat} {cv fv rv : Value} {cs : List Cell} {fr ro : List Int} {live : Int} (r : Int) (s : ByteArray) (h : Hx w H A B cv fv rv cs fr ro live) (hl : cs.length ≤ 100000000) (hk : ∀ i n, (cs.getD i (none, false)).1 = some n → n.1 = tObj ∨ n.1 = tMark) :
    Calls Tryz.prog 46 #[.pointer (some ⟨H, 0, none⟩), VS 9 r s] w fun e w' => e = .returned (objP cs r) ∧ Below w.heap.size w w' := by
  have bb : Below w.heap.size w (w.alloc (.cells #[.int .i64 9, .int .i64 r, .string s] 30)) := (Below.refl _ _).alloc (Nat.le_refl _) _
  have HO := Lib.hid (obj_anyS r (h.below bb) hl hk)
  have HB := Lib.hid bb
  clear h bb hk
  go_enter Tryz.func46, Tryz.ntmps46
  go_wp2_with (fail)
  refine HO.out.mono ?_
  rintro e w2 ⟨rfl, q, rfl⟩
  obtain ⟨v, hv⟩ : ∃ v, objP cs r = v := ⟨_, rfl⟩
  rw [hv]
  have HV := Lib.hid hv
  clear hv HO
  go_wp2
  go_ret
  exact ⟨by rw [HV.out]; rfl, below_drw HB.out q⟩

/-- A machine's cells: its heap, its prototypes, its host. -/
abbrev hostV : Value := .iface 54 (.agg #[])
def machC (H : Nat) (ps : List Int) : Array Value :=
  (.pointer (some ⟨H, 0, none⟩) :: (numCells ps ++ [.int .i64 0, .int .i64 0, .int .i64 0, .string ⟨#[]⟩, hostV, .int .i64 4194304, .int .i64 20, .int .i64 10000, nilS, .bool false, nilS, .int .i64 0, nilS, .int .i64 0, .int .i64 0, nilS, nilS, nilS, nilS, nilS, .int .i64 0])).toArray
set_option maxRecDepth 100000 in
set_option maxHeartbeats 4000000 in
theorem vmnew_any (w : World) : Calls Tryz.prog 13 #[hostV, .agg #[.int .i64 4194304, .int .i64 20, .int .i64 10000], .agg #[nilS, .bool false, nilS]] w fun e w' =>
    ∃ m H, e = .returned (.pointer (some ⟨m, 0, none⟩)) ∧ w.heap.size < H ∧ H < m ∧ Blk w' m 69 (machC H (List.replicate 21 0)) ∧ Hx w' H (H - 1) (H - 1) nilS nilS nilS [] [] [] 0 ∧ Below w.heap.size w w' := by
  have S1 : ((w.alloc (.cells #[.int .i64 4194304, .int .i64 20, .int .i64 10000] 56)).alloc (.cells #[nilS, .bool false, nilS] 59)).cell? ⟨w.heap.size, 0, none⟩ = some (.int .i64 4194304) ∧ ((w.alloc (.cells #[.int .i64 4194304, .int .i64 20, .int .i64 10000] 56)).alloc (.cells #[nilS, .bool false, nilS] 59)).cell? ⟨w.heap.size, 1, none⟩ = some (.int .i64 20) ∧ ((w.alloc (.cells #[.int .i64 4194304, .int .i64 20, .int .i64 10000] 56)).alloc (.cells #[nilS, .bool false, nilS] 59)).cell? ⟨w.heap.size, 2, none⟩ = some (.int .i64 10000) ∧ ((w.alloc (.cells #[.int .i64 4194304, .int .i64 20, .int .i64 10000] 56)).alloc (.cells #[nilS, .bool false, nilS] 59)).cell? ⟨w.heap.size + 1, 0, none⟩ = some nilS ∧ ((w.alloc (.cells #[.int .i64 4194304, .int .i64 20, .int .i64 10000] 56)).alloc (.cells #[nilS, .bool false, nilS] 59)).cell? ⟨w.heap.size + 1, 1, none⟩ = some (.bool false) ∧ ((w.alloc (.cells #[.int .i64 4194304, .int .i64 20, .int .i64 10000] 56)).alloc (.cells #[nilS, .bool false, nilS] 59)).cell? ⟨w.heap.size + 1, 2, none⟩ = some nilS := by
    have z1 := (Blk.new w 56 #[.int .i64 4194304, .int .i64 20, .int .i64 10000]).alloc (.cells #[nilS, .bool false, nilS] 59)
    have z2 := Blk.new (w.alloc (.cells #[.int .i64 4194304, .int .i64 20, .int .i64 10000] 56)) 59 #[nilS, .bool false, nilS]
    rw [World.size_alloc] at z2
    exact ⟨by rw [z1.cell]; rfl, by rw [z1.cell]; rfl, by rw [z1.cell]; rfl, by rw [z2.cell]; rfl, by rw [z2.cell]; rfl, by rw [z2.cell]; rfl⟩
  have HS := Lib.hid S1
  have HB := Lib.hid (((Below.refl w.heap.size w).alloc (Nat.le_refl _) (.cells #[.int .i64 4194304, .int .i64 20, .int .i64 10000] 56)).alloc (by simp) (.cells #[nilS, .bool false, nilS] 59))
  clear S1
  go_enter Tryz.func13, Tryz.ntmps13
  go_wp2_with (fail)
  generalize (w.alloc (.cells #[.int .i64 4194304, .int .i64 20, .int .i64 10000] 56)).alloc (.cells #[nilS, .bool false, nilS] 59) = E at *
  refine wp_var0 (fun KV HKV => ?_)
  refine wp_region_till (m := 5) (S := (fun W => W.cell? ⟨w.heap.size, 0, none⟩ = some (.int .i64 4194304) ∧ W.cell? ⟨w.heap.size, 1, none⟩ = some (.int .i64 20) ∧ W.cell? ⟨w.heap.size, 2, none⟩ = some (.int .i64 10000) ∧ W.cell? ⟨w.heap.size + 1, 0, none⟩ = some nilS ∧ W.cell? ⟨w.heap.size + 1, 1, none⟩ = some (.bool false) ∧ W.cell? ⟨w.heap.size + 1, 2, none⟩ = some nilS)) (by kernel_rfl) ?_
  have e4 : E.drew = E.drewN 1 := rfl
  rw [e4]
  have S0 : (E.drewN 1).cell? ⟨w.heap.size, 0, none⟩ = some (.int .i64 4194304) ∧ (E.drewN 1).cell? ⟨w.heap.size, 1, none⟩ = some (.int .i64 20) ∧ (E.drewN 1).cell? ⟨w.heap.size, 2, none⟩ = some (.int .i64 10000) ∧ (E.drewN 1).cell? ⟨w.heap.size + 1, 0, none⟩ = some nilS ∧ (E.drewN 1).cell? ⟨w.heap.size + 1, 1, none⟩ = some (.bool false) ∧ (E.drewN 1).cell? ⟨w.heap.size + 1, 2, none⟩ = some nilS := HS.out
  have HBD := Lib.hid (below_drw HB.out 1)
  clear e4 HS HB
  generalize E.drewN 1 = E1 at *
  change tillH _ _ _ _ _ _ 7 #[false, false, false, false, false, false, false] _ _
  refine tillH_takeAny (i := 1) (oi := ?oo1) (v := ?vv1) ?hi1 (by kernel_rfl) (by kernel_rfl) (by kernel_rfl) ?hq1 (by kernel_rfl) ?hy1 (fun _ => S0) ?hh1
  case hi1 => (simp only [List.getElem?_toArray, List.getElem?_cons_succ, List.getElem?_cons_zero]; rfl)
  case hq1 => exact fun _ _ _ h => h
  case hy1 => exact Or.inl ⟨by rfl, by (intro W; go_simp; (try with_reducible rfl))⟩
  (try simp only [Act.put, List.setIfInBounds_toArray, List.set_cons_zero, List.set_cons_succ])
  refine tillH_take2 4 (i := 2) (oi := ?oo2) (v := ?vv2) ?hi2 (by kernel_rfl) (by kernel_rfl) (by kernel_rfl) ?hq2 (by kernel_rfl) (by kernel_rfl) (by kernel_rfl) ?hy2 S0 ?hh2
  case hi2 => (simp only [List.getElem?_toArray, List.getElem?_cons_succ, List.getElem?_cons_zero]; rfl)
  case hq2 => exact fun _ _ _ h => h
  case hy2 => exact Or.inl ⟨by rfl, by (intro W hSw; (try obtain ⟨s0, s1, s2, s3, s4, s5⟩ := hSw); go_simp; (try with_reducible rfl))⟩
  (try simp only [Act.put, List.setIfInBounds_toArray, List.set_cons_zero, List.set_cons_succ])
  refine tillH_take2 4 (i := 3) (oi := ?oo3) (v := ?vv3) ?hi3 (by kernel_rfl) (by kernel_rfl) (by kernel_rfl) ?hq3 (by kernel_rfl) (by kernel_rfl) (by kernel_rfl) ?hy3 S0 ?hh3
  case hi3 => (simp only [List.getElem?_toArray, List.getElem?_cons_succ, List.getElem?_cons_zero]; rfl)
  case hq3 => exact fun _ _ _ h => h
  case hy3 => exact Or.inl ⟨by rfl, by (intro W hSw; (try obtain ⟨s0, s1, s2, s3, s4, s5⟩ := hSw); go_simp; (try with_reducible rfl))⟩
  (try simp only [Act.put, List.setIfInBounds_toArray, List.set_cons_zero, List.set_cons_succ])
  refine tillH_next (rs := [0]) (by kernel_rfl) (by simp) ?_
  refine NextH.cons rfl (fun K hK => ?_) NextH.nil
  go_simp
  refine (hnew_any _).mono ?_
  rintro e E2 ⟨rfl, rfl⟩
  have HX := Lib.hid (And.intro (newW_hx E1) (HBD.out.trans ((newW_below E1).mono HBD.out.size)))
  have HZ := Lib.hid HBD.out.size
  have S2 : (newW E1).cell? ⟨w.heap.size, 0, none⟩ = some (.int .i64 4194304) ∧ (newW E1).cell? ⟨w.heap.size, 1, none⟩ = some (.int .i64 20) ∧ (newW E1).cell? ⟨w.heap.size, 2, none⟩ = some (.int .i64 10000) ∧ (newW E1).cell? ⟨w.heap.size + 1, 0, none⟩ = some nilS ∧ (newW E1).cell? ⟨w.heap.size + 1, 1, none⟩ = some (.bool false) ∧ (newW E1).cell? ⟨w.heap.size + 1, 2, none⟩ = some nilS := by
    obtain ⟨s0, s1, s2, s3, s4, s5⟩ := S0
    exact ⟨((newW_below E1).cell (World.block_lt_of_cell? E1 _ s0)).trans s0, ((newW_below E1).cell (World.block_lt_of_cell? E1 _ s1)).trans s1, ((newW_below E1).cell (World.block_lt_of_cell? E1 _ s2)).trans s2, ((newW_below E1).cell (World.block_lt_of_cell? E1 _ s3)).trans s3, ((newW_below E1).cell (World.block_lt_of_cell? E1 _ s4)).trans s4, ((newW_below E1).cell (World.block_lt_of_cell? E1 _ s5)).trans s5⟩
  refine hK.out _ _ (fun _ => S2) ?_
  clear hK K
  (try simp only [Act.put, List.setIfInBounds_toArray, List.set_cons_zero, List.set_cons_succ])
  generalize newW E1 = E3 at *
  refine tillH_takeAny (i := 4) (oi := ?oo4) (v := ?vv4) ?hi4 (by kernel_rfl) (by kernel_rfl) (by kernel_rfl) ?hq4 (by kernel_rfl) ?hy4 (fun _ => S2) ?hh4
  case hi4 => (simp only [List.getElem?_toArray, List.getElem?_cons_succ, List.getElem?_cons_zero]; rfl)
  case hq4 => exact fun _ _ _ h => h
  case hy4 => exact Or.inl ⟨by rfl, by (intro W; go_simp; (try with_reducible rfl))⟩
  (try simp only [Act.put, List.setIfInBounds_toArray, List.set_cons_zero, List.set_cons_succ])
  refine tillH_next (rs := [5]) (by kernel_rfl) (by simp) ?_
  refine NextH.cons rfl (fun K hK => ?_) NextH.nil
  go_simp
  refine hK.out _ _ (fun h => absurd h (by simp)) ?_
  clear hK K
  (try simp only [Act.put, List.setIfInBounds_toArray, List.set_cons_zero, List.set_cons_succ])
  refine tillH_takeAny (i := 6) (oi := ?oo5) (v := ?vv5) ?hi5 (by kernel_rfl) (by kernel_rfl) (by kernel_rfl) ?hq5 (by kernel_rfl) ?hy5 (fun h => absurd h (by simp)) ?hh5
  case hi5 => (simp only [List.getElem?_toArray, List.getElem?_cons_succ, List.getElem?_cons_zero]; rfl)
  case hq5 => exact fun _ _ _ h => h
  case hy5 => exact Or.inl ⟨by rfl, by (intro W; go_simp; (try with_reducible rfl))⟩
  (try simp only [Act.put, List.setIfInBounds_toArray, List.set_cons_zero, List.set_cons_succ])
  refine tillH_done (by kernel_rfl) ?_ _
  refine HKV.out _ _ ?_
  go_wp2
  go_ret
  have ba := (Below.refl E3.heap.size E3).alloc (Nat.le_refl _) (.cells (machC (E1.heap.size + 1) (List.replicate 21 0)) 69)
  exact ⟨E3.heap.size, E1.heap.size + 1, rfl, Nat.lt_succ_of_le HZ.out, HX.out.1.hb.lt, Blk.new E3 _ (machC (E1.heap.size + 1) (List.replicate 21 0)), HX.out.1.below ba, HX.out.2.trans (ba.mono HX.out.2.size)⟩
end Go.Proofs.YtdeboajjhpecbaaGreatDoor.Hp

/- Show: machine(). -/
set_option linter.unusedVariables false
set_option linter.unusedSimpArgs false
namespace Go.Proofs.YtdeboajjhpecbaaGreatDoor.Hp
open Go.RowKit Go.Proofs.YtdeboajjhpecbaaGreatDoor Go.Shelf

/-- A machine and its arena: nothing is free, no roots. -/
structure Ms (N : Nat) (w : World) (m H A B : Nat) (cv : Value) (cs : List Cell) (ps : List Int) : Prop where
  low : N ≤ m ∧ N ≤ A ∧ N ≤ B ∧ B ≤ w.heap.size
  own : ∀ g, cv.ownBlock = some g → N ≤ g
  mb : Blk w m 69 (machC H ps)
  pl : ps.length = 21
  hx : Hx w H A B cv nilS nilS cs [] [] (cs.length : Int)
  hk : ∀ i n, (cs.getD i (none, false)).1 = some n → n.1 = tObj ∨ n.1 = tMark
theorem Ms.below {N : Nat} {w w' : World} {m H A B : Nat} {cv : Value} {cs : List Cell} {ps : List Int} (h : Ms N w m H A B cv cs ps) (b : Below w.heap.size w w') : Ms N w' m H A B cv cs ps :=
  ⟨⟨h.low.1, h.low.2.1, h.low.2.2.1, Nat.le_trans h.low.2.2.2 b.size⟩, h.own, h.mb.below b h.mb.lt, h.pl, h.hx.below b, h.hk⟩
theorem Ms.drewN {N : Nat} {w : World} {m H A B : Nat} {cv : Value} {cs : List Cell} {ps : List Int} (h : Ms N w m H A B cv cs ps) (q : Nat) : Ms N (w.drewN q) m H A B cv cs ps := h.below (below_drw (Below.refl w.heap.size w) q)
/-- What is kept: the blocks of objects, values and symbols. -/
def Kp (w w' : World) : Prop := ∀ g t cs, Blk w g t cs → (t = 85 ∨ t = 30 ∨ t = 99) → Blk w' g t cs
theorem Kp.refl (w : World) : Kp w w := fun _ _ _ h _ => h
theorem Kp.trans {w w' w'' : World} (h : Kp w w') (k : Kp w' w'') : Kp w w'' := fun g t cs hb ht => k g t cs (h g t cs hb ht) ht
theorem Kp.of_below {w w' : World} (b : Below w.heap.size w w') : Kp w w' := fun g t cs h _ => h.below b h.lt
theorem objP_last (cs : List Cell) (b : Nat) : objP (cs ++ [(some (tObj, b), false)]) ((cs.length + 1 : Nat) : Int) = .pointer (some ⟨b, 0, none⟩) := by
  have h1 : (1 : Int) ≤ ((cs.length + 1 : Nat) : Int) ∧ ((cs.length + 1 : Nat) : Int) ≤ (((cs ++ [(some (tObj, b), false)]).length : Nat) : Int) := by simp; omega
  have h2 : (((cs.length + 1 : Nat) : Int) - 1).toNat = cs.length := by omega
  unfold objP
  rw [if_pos h1, h2]
  simp
theorem objP_old (cs : List Cell) (x : Cell) (r : Int) (h : r ≤ cs.length) : objP (cs ++ [x]) r = objP cs r := by
  unfold objP
  by_cases h1 : 1 ≤ r
  · have h2 : (r - 1).toNat < cs.length := by omega
    rw [if_pos ⟨h1, by simp; omega⟩, if_pos ⟨h1, h⟩]
    rw [show (cs ++ [x]).getD (r - 1).toNat (none, false) = cs.getD (r - 1).toNat (none, false) by simp only [List.getD, List.getElem?_append_left h2]]
  · rw [if_neg (fun h => h1 h.1), if_neg (fun h => h1 h.1)]
/-- Make, by a machine. -/
theorem Ms.make {N : Nat} {w : World} {m H A B : Nat} {cv : Value} {cs : List Cell} {ps : List Int} (h : Ms N w m H A B cv cs ps) (cl pr : Int) (hc : cs.length ≤ 4000) (hN : N ≤ w.heap.size) :
    Calls Tryz.prog 14 #[.pointer (some ⟨H, 0, none⟩), .int .i64 cl, .int .i64 pr] w fun e w' => ∃ b T cv', e = .returned (.tuple #[.int .i64 ((cs.length + 1 : Nat) : Int), .pointer (some ⟨b, 0, none⟩)]) ∧
      Ms N w' m H A B cv' (cs ++ [(some (tObj, b), false)]) ps ∧ Blk w' b 85 (objN cl pr T) ∧ TabA w' T [] [] (fun k => k = T) ∧ w.heap.size ≤ T ∧ T < b ∧ Kp w w' ∧ Below N w w' := by
  refine (make_any cl pr h.hx (by omega) (by omega) (by omega) h.low.2.2.2).mono ?_
  rintro e w' ⟨b, T, cv', rfl, hT, hTb, hB, hTab, hX, hU, hO⟩
  have hne : ∀ g t c, Blk w g t c → (t = 85 ∨ t = 30 ∨ t = 99 ∨ t = 69) → ¬ (g = A ∨ cv.ownBlock = some g) := by
    intro g t c hb ht hg
    rcases hg with rfl | hg
    · exact hb.ne_ h.hx.ar.blk (by rcases ht with rfl | rfl | rfl | rfl <;> decide) rfl
    · exact own_blk_ne h.hx.ar.cells hb (by rcases ht with rfl | rfl | rfl | rfl <;> decide) hg
  refine ⟨b, T, cv', rfl, ⟨⟨h.low.1, h.low.2.1, h.low.2.2.1, Nat.le_trans h.low.2.2.2 hU.size⟩, ?_, hU.blk h.mb (hne _ _ _ h.mb (by simp)), h.pl, ?_, ?_⟩, hB, hTab, hT, hTb, fun g t c hb ht => hU.blk hb (hne g t c hb (by rcases ht with h | h | h <;> simp [h])), ?_⟩
  · intro g hg
    rcases hO g hg with h1 | h1
    · exact h.own g h1
    · omega
  · have : ((cs ++ [(some (tObj, b), false)]).length : Int) = (cs.length : Int) + 1 := by simp
    rw [this]
    exact hX
  · intro i n hn
    by_cases hi : i < cs.length
    · rw [show (cs ++ [(some (tObj, b), false)]).getD i (none, false) = cs.getD i (none, false) by simp only [List.getD, List.getElem?_append_left hi]] at hn
      exact h.hk i n hn
    · by_cases he : i = cs.length
      · subst he
        simp at hn
        left
        rw [← hn]
      · rw [show (cs ++ [(some (tObj, b), false)]).getD i (none, false) = (none, false) by simp only [List.getD]; rw [List.getElem?_eq_none (by simp; omega)]; rfl] at hn
        cases hn
  · refine hU.below hN ?_
    intro k hk
    rcases hk with rfl | hk
    · exact h.low.2.1
    · exact h.own k hk
theorem machC_get (H : Nat) (ps : List Int) (hp : ps.length = 21) (i : Nat) (hi : i < 21) : (machC H ps)[1 + i]? = some (.int .i64 (ps.getD i 0)) := by
  unfold machC
  rw [List.getElem?_toArray, Nat.add_comm, List.getElem?_cons_succ, List.getElem?_append_left (by simp [numCells]; omega)]
  exact numCells_get ps i (by omega)
theorem machC_set (H : Nat) (ps : List Int) (hp : ps.length = 21) (i : Nat) (hi : i < 21) (x : Int) : (machC H ps).setIfInBounds (1 + i) (.int .i64 x) = machC H (ps.set i x) := by
  unfold machC
  rw [List.setIfInBounds_toArray, Nat.add_comm, List.set_cons_succ, List.set_append_left _ _ (by simp [numCells]; omega)]
  simp [numCells, List.map_set]
/-- A prototype is set. -/
theorem Ms.proto {N : Nat} {w : World} {m H A B : Nat} {cv : Value} {cs : List Cell} {ps : List Int} (h : Ms N w m H A B cv cs ps) (i : Nat) (hi : i < 21) (x : Int) (hN : N ≤ w.heap.size) :
    Ms N (w.setCell ⟨m, 1 + i, none⟩ (.int .i64 x)) m H A B cv cs (ps.set i x) ∧ Kp w (w.setCell ⟨m, 1 + i, none⟩ (.int .i64 x)) ∧ Below N w (w.setCell ⟨m, 1 + i, none⟩ (.int .i64 x)) := by
  have u : Upd w (w.setCell ⟨m, 1 + i, none⟩ (.int .i64 x)) (fun k => k = m) := (Upd.refl w _).set m (1 + i) _ rfl
  have hm := h.mb.set_ (1 + i) (.int .i64 x)
  rw [machC_set H ps h.pl i hi x] at hm
  refine ⟨⟨⟨h.low.1, h.low.2.1, h.low.2.2.1, Nat.le_trans h.low.2.2.2 u.size⟩, h.own, hm, by rw [List.length_set]; exact h.pl, ?_, h.hk⟩, ?_, ?_⟩
  · refine h.hx.upd u (fun e => h.hx.hb.ne_ h.mb (by decide) e) (fun e => h.hx.ar.blk.ne_ h.mb (by decide) e) (fun g hg e => own_blk_ne h.hx.ar.cells h.mb (by decide) (e ▸ hg)) (fun g hg => by cases hg) (fun g hg => by cases hg)
  · exact fun g t c hb ht => u.blk hb (fun e => hb.ne_ h.mb (by rcases ht with rfl | rfl | rfl <;> decide) e)
  · exact u.below hN (fun k e => e ▸ h.low.1)
end Go.Proofs.YtdeboajjhpecbaaGreatDoor.Hp
