/- Show: Of, the machine: New, its prototypes. -/
import Derived.Test.YtdeboajjhpecbaaDoorHpB
import Derived.Test.YtdeboajjhpecbaaDoorOrd
import Derived.Test.YtdeboajjhpecbaaDoorHpQ
set_option linter.unusedVariables false
set_option linter.unusedSimpArgs false
namespace Go.Proofs.YtdeboajjhpecbaaDoor.Hp
open Go.RowKit Go.Proofs.YtdeboajjhpecbaaDoor Go.Shelf

set_option maxHeartbeats 1000000 in
theorem of_no (H : Nat) (k n : Int) (s : ByteArray) (w : World) (hk : k ≠ 9) : Calls Tryd.prog 9 #[.pointer (some ⟨H, 0, none⟩), VS k n s] w fun e w' => e = .returned (.pointer none) ∧ Below w.heap.size w w' := by
  have t1 : (k != 9) = true := by simpa using hk
  go_enter Tryd.func9, Tryd.ntmps9
  go_wp2
  go_ret
  exact ⟨rfl, (Below.refl _ _).alloc (Nat.le_refl _) _⟩
theorem getV_objS (cs : List Cell) (r : Int) (hk : ∀ i n, (cs.getD i (none, false)).1 = some n → n.1 = tObj ∨ n.1 = tMark) (w : World) : ∃ b, (Instr.typeAssert (getV cs r) 106 tObj true).run Tryd.prog w = .ok (.tuple #[objP cs r, .bool b]) w := by
  unfold getV objP
  split
  · rename_i h
    cases hc : (cs.getD (r - 1).toNat (none, false)).1 with
    | none => exact ⟨_, isObj_nil w⟩
    | some n =>
      rcases hk _ n hc with e | e
      · simp only [bodyV, e]
        exact ⟨_, isObj _ w⟩
      · simp only [bodyV, e]
        exact ⟨_, isObj_mark _ w⟩
  · exact ⟨_, isObj_nil w⟩
set_option maxHeartbeats 1000000 in
theorem obj_anyS {w : World} {H A B : Nat} {cv fv rv : Value} {cs : List Cell} {fr ro : List Int} {live : Int} (r : Int) (h : Hx w H A B cv fv rv cs fr ro live) (hl : cs.length ≤ 100000000) (hk : ∀ i n, (cs.getD i (none, false)).1 = some n → n.1 = tObj ∨ n.1 = tMark) :
    Calls Tryd.prog 22 #[.pointer (some ⟨H, 0, none⟩), .int .i64 r] w fun e w' => e = .returned (objP cs r) ∧ ∃ q, w' = w.drewN q := by
  have y0 : w.cell? ⟨H, 0, none⟩ = some (.pointer (some ⟨A, 0, none⟩)) := by rw [h.hb.cell]; rfl
  have HX := Lib.hid h
  clear h
  go_enter Tryd.func22, Tryd.ntmps22
  go_wp2_with (fail)
  refine (get_any r HX.out.ar hl).mono ?_
  rintro e w1 ⟨rfl, q, rfl⟩
  have ha := getV_objS cs r hk
  generalize getV cs r = gv at *
  generalize hov : objP cs r = ov at *
  have HV := Lib.hid hov
  clear hk hov
  have hat := ha (w.drewN q)
  obtain ⟨bb, hat⟩ := hat
  go_wp2
  go_ret
  exact ⟨by rw [HV.out]; rfl, q, rfl⟩
set_option maxHeartbeats 1000000 in
theorem of_obj {w : World} {H A B : Nat} {cv fv rv : Value} {cs : List Cell} {fr ro : List Int} {live : Int} (r : Int) (s : ByteArray) (h : Hx w H A B cv fv rv cs fr ro live) (hl : cs.length ≤ 100000000) (hk : ∀ i n, (cs.getD i (none, false)).1 = some n → n.1 = tObj ∨ n.1 = tMark) :
    Calls Tryd.prog 9 #[.pointer (some ⟨H, 0, none⟩), VS 9 r s] w fun e w' => e = .returned (objP cs r) ∧ Below w.heap.size w w' := by
  have bb : Below w.heap.size w (w.alloc (.cells #[.int .i64 9, .int .i64 r, .string s] 26)) := (Below.refl _ _).alloc (Nat.le_refl _) _
  have HO := Lib.hid (obj_anyS r (h.below bb) hl hk)
  have HB := Lib.hid bb
  clear h bb hk
  go_enter Tryd.func9, Tryd.ntmps9
  go_wp2_with (fail)
  refine HO.out.mono ?_
  rintro e w2 ⟨rfl, q, rfl⟩
  obtain ⟨v, hv⟩ : ∃ v, objP cs r = v := ⟨_, rfl⟩
  rw [hv]
  have HV := Lib.hid hv
  clear hv HO
  go_wp2
  go_ret
  exact ⟨by rw [HV.out]; rfl, below_drw HB.out q⟩

/-- A machine's cells: its heap, its prototypes, its host. -/
abbrev hostV : Value := .iface 70 (.agg #[])
def machC (H : Nat) (ps : List Int) : Array Value :=
  (.pointer (some ⟨H, 0, none⟩) :: (numCells ps ++ [.int .i64 0, .int .i64 0, .int .i64 0, .string ⟨#[]⟩, hostV, .int .i64 4194304, .int .i64 20, .int .i64 10000, nilS, .bool false, nilS, .int .i64 0, nilS, .int .i64 0, .int .i64 0, nilS, nilS, nilS, nilS, nilS, .int .i64 0])).toArray
set_option maxRecDepth 100000 in
set_option maxHeartbeats 4000000 in
theorem vmnew_any (w : World) : Calls Tryd.prog 21 #[hostV, .agg #[.int .i64 4194304, .int .i64 20, .int .i64 10000], .agg #[nilS, .bool false, nilS]] w fun e w' =>
    ∃ m H, e = .returned (.pointer (some ⟨m, 0, none⟩)) ∧ w.heap.size < H ∧ H < m ∧ Blk w' m 52 (machC H (List.replicate 21 0)) ∧ Hx w' H (H - 1) (H - 1) nilS nilS nilS [] [] [] 0 ∧ Below w.heap.size w w' := by
  have S1 : ((w.alloc (.cells #[.int .i64 4194304, .int .i64 20, .int .i64 10000] 44)).alloc (.cells #[nilS, .bool false, nilS] 47)).cell? ⟨w.heap.size, 0, none⟩ = some (.int .i64 4194304) ∧ ((w.alloc (.cells #[.int .i64 4194304, .int .i64 20, .int .i64 10000] 44)).alloc (.cells #[nilS, .bool false, nilS] 47)).cell? ⟨w.heap.size, 1, none⟩ = some (.int .i64 20) ∧ ((w.alloc (.cells #[.int .i64 4194304, .int .i64 20, .int .i64 10000] 44)).alloc (.cells #[nilS, .bool false, nilS] 47)).cell? ⟨w.heap.size, 2, none⟩ = some (.int .i64 10000) ∧ ((w.alloc (.cells #[.int .i64 4194304, .int .i64 20, .int .i64 10000] 44)).alloc (.cells #[nilS, .bool false, nilS] 47)).cell? ⟨w.heap.size + 1, 0, none⟩ = some nilS ∧ ((w.alloc (.cells #[.int .i64 4194304, .int .i64 20, .int .i64 10000] 44)).alloc (.cells #[nilS, .bool false, nilS] 47)).cell? ⟨w.heap.size + 1, 1, none⟩ = some (.bool false) ∧ ((w.alloc (.cells #[.int .i64 4194304, .int .i64 20, .int .i64 10000] 44)).alloc (.cells #[nilS, .bool false, nilS] 47)).cell? ⟨w.heap.size + 1, 2, none⟩ = some nilS := by
    have z1 := (Blk.new w 44 #[.int .i64 4194304, .int .i64 20, .int .i64 10000]).alloc (.cells #[nilS, .bool false, nilS] 47)
    have z2 := Blk.new (w.alloc (.cells #[.int .i64 4194304, .int .i64 20, .int .i64 10000] 44)) 47 #[nilS, .bool false, nilS]
    rw [World.size_alloc] at z2
    exact ⟨by rw [z1.cell]; rfl, by rw [z1.cell]; rfl, by rw [z1.cell]; rfl, by rw [z2.cell]; rfl, by rw [z2.cell]; rfl, by rw [z2.cell]; rfl⟩
  have HS := Lib.hid S1
  have HB := Lib.hid (((Below.refl w.heap.size w).alloc (Nat.le_refl _) (.cells #[.int .i64 4194304, .int .i64 20, .int .i64 10000] 44)).alloc (by simp) (.cells #[nilS, .bool false, nilS] 47))
  clear S1
  go_enter Tryd.func21, Tryd.ntmps21
  go_wp2_with (fail)
  generalize (w.alloc (.cells #[.int .i64 4194304, .int .i64 20, .int .i64 10000] 44)).alloc (.cells #[nilS, .bool false, nilS] 47) = E at *
  refine wp_var0 (fun KV HKV => ?_)
  refine wp_region_till (m := 5) (S := (fun W => W.cell? ⟨w.heap.size, 0, none⟩ = some (.int .i64 4194304) ∧ W.cell? ⟨w.heap.size, 1, none⟩ = some (.int .i64 20) ∧ W.cell? ⟨w.heap.size, 2, none⟩ = some (.int .i64 10000) ∧ W.cell? ⟨w.heap.size + 1, 0, none⟩ = some nilS ∧ W.cell? ⟨w.heap.size + 1, 1, none⟩ = some (.bool false) ∧ W.cell? ⟨w.heap.size + 1, 2, none⟩ = some nilS)) (by kernel_rfl) ?_
  have e4 : E.drew = E.drewN 1 := rfl
  rw [e4]
  have S0 : (E.drewN 1).cell? ⟨w.heap.size, 0, none⟩ = some (.int .i64 4194304) ∧ (E.drewN 1).cell? ⟨w.heap.size, 1, none⟩ = some (.int .i64 20) ∧ (E.drewN 1).cell? ⟨w.heap.size, 2, none⟩ = some (.int .i64 10000) ∧ (E.drewN 1).cell? ⟨w.heap.size + 1, 0, none⟩ = some nilS ∧ (E.drewN 1).cell? ⟨w.heap.size + 1, 1, none⟩ = some (.bool false) ∧ (E.drewN 1).cell? ⟨w.heap.size + 1, 2, none⟩ = some nilS := HS.out
  have HBD := Lib.hid (below_drw HB.out 1)
  clear e4 HS HB
  generalize E.drewN 1 = E1 at *
  change tillH _ _ _ _ _ _ 7 #[false, false, false, false, false, false, false] _ _
  refine tillH_takeAny (i := 1) (oi := ?oo1) (v := ?vv1) ?hi1 (by kernel_rfl) (by kernel_rfl) (by kernel_rfl) ?hq1 (by kernel_rfl) ?hy1 (fun _ => S0) ?hh1
  case hi1 => (simp only [List.getElem?_toArray, List.getElem?_cons_succ, List.getElem?_cons_zero]; rfl)
  case hq1 => exact fun _ _ _ h => h
  case hy1 => exact Or.inl ⟨by rfl, by (intro W; go_simp; (try with_reducible rfl))⟩
  (try simp only [Act.put, List.setIfInBounds_toArray, List.set_cons_zero, List.set_cons_succ])
  refine tillH_take2 4 (i := 2) (oi := ?oo2) (v := ?vv2) ?hi2 (by kernel_rfl) (by kernel_rfl) (by kernel_rfl) ?hq2 (by kernel_rfl) (by kernel_rfl) (by kernel_rfl) ?hy2 S0 ?hh2
  case hi2 => (simp only [List.getElem?_toArray, List.getElem?_cons_succ, List.getElem?_cons_zero]; rfl)
  case hq2 => exact fun _ _ _ h => h
  case hy2 => exact Or.inl ⟨by rfl, by (intro W hSw; (try obtain ⟨s0, s1, s2, s3, s4, s5⟩ := hSw); go_simp; (try with_reducible rfl))⟩
  (try simp only [Act.put, List.setIfInBounds_toArray, List.set_cons_zero, List.set_cons_succ])
  refine tillH_take2 4 (i := 3) (oi := ?oo3) (v := ?vv3) ?hi3 (by kernel_rfl) (by kernel_rfl) (by kernel_rfl) ?hq3 (by kernel_rfl) (by kernel_rfl) (by kernel_rfl) ?hy3 S0 ?hh3
  case hi3 => (simp only [List.getElem?_toArray, List.getElem?_cons_succ, List.getElem?_cons_zero]; rfl)
  case hq3 => exact fun _ _ _ h => h
  case hy3 => exact Or.inl ⟨by rfl, by (intro W hSw; (try obtain ⟨s0, s1, s2, s3, s4, s5⟩ := hSw); go_simp; (try with_reducible rfl))⟩
  (try simp only [Act.put, List.setIfInBounds_toArray, List.set_cons_zero, List.set_cons_succ])
  refine tillH_next (rs := [0]) (by kernel_rfl) (by simp) ?_
  refine NextH.cons rfl (fun K hK => ?_) NextH.nil
  go_simp
  refine (hnew_any _).mono ?_
  rintro e E2 ⟨rfl, rfl⟩
  have HX := Lib.hid (And.intro (newW_hx E1) (HBD.out.trans ((newW_below E1).mono HBD.out.size)))
  have HZ := Lib.hid HBD.out.size
  have S2 : (newW E1).cell? ⟨w.heap.size, 0, none⟩ = some (.int .i64 4194304) ∧ (newW E1).cell? ⟨w.heap.size, 1, none⟩ = some (.int .i64 20) ∧ (newW E1).cell? ⟨w.heap.size, 2, none⟩ = some (.int .i64 10000) ∧ (newW E1).cell? ⟨w.heap.size + 1, 0, none⟩ = some nilS ∧ (newW E1).cell? ⟨w.heap.size + 1, 1, none⟩ = some (.bool false) ∧ (newW E1).cell? ⟨w.heap.size + 1, 2, none⟩ = some nilS := by
    obtain ⟨s0, s1, s2, s3, s4, s5⟩ := S0
    exact ⟨((newW_below E1).cell (World.block_lt_of_cell? E1 _ s0)).trans s0, ((newW_below E1).cell (World.block_lt_of_cell? E1 _ s1)).trans s1, ((newW_below E1).cell (World.block_lt_of_cell? E1 _ s2)).trans s2, ((newW_below E1).cell (World.block_lt_of_cell? E1 _ s3)).trans s3, ((newW_below E1).cell (World.block_lt_of_cell? E1 _ s4)).trans s4, ((newW_below E1).cell (World.block_lt_of_cell? E1 _ s5)).trans s5⟩
  refine hK.out _ _ (fun _ => S2) ?_
  clear hK K
  (try simp only [Act.put, List.setIfInBounds_toArray, List.set_cons_zero, List.set_cons_succ])
  generalize newW E1 = E3 at *
  refine tillH_takeAny (i := 4) (oi := ?oo4) (v := ?vv4) ?hi4 (by kernel_rfl) (by kernel_rfl) (by kernel_rfl) ?hq4 (by kernel_rfl) ?hy4 (fun _ => S2) ?hh4
  case hi4 => (simp only [List.getElem?_toArray, List.getElem?_cons_succ, List.getElem?_cons_zero]; rfl)
  case hq4 => exact fun _ _ _ h => h
  case hy4 => exact Or.inl ⟨by rfl, by (intro W; go_simp; (try with_reducible rfl))⟩
  (try simp only [Act.put, List.setIfInBounds_toArray, List.set_cons_zero, List.set_cons_succ])
  refine tillH_next (rs := [5]) (by kernel_rfl) (by simp) ?_
  refine NextH.cons rfl (fun K hK => ?_) NextH.nil
  go_simp
  refine hK.out _ _ (fun h => absurd h (by simp)) ?_
  clear hK K
  (try simp only [Act.put, List.setIfInBounds_toArray, List.set_cons_zero, List.set_cons_succ])
  refine tillH_takeAny (i := 6) (oi := ?oo5) (v := ?vv5) ?hi5 (by kernel_rfl) (by kernel_rfl) (by kernel_rfl) ?hq5 (by kernel_rfl) ?hy5 (fun h => absurd h (by simp)) ?hh5
  case hi5 => (simp only [List.getElem?_toArray, List.getElem?_cons_succ, List.getElem?_cons_zero]; rfl)
  case hq5 => exact fun _ _ _ h => h
  case hy5 => exact Or.inl ⟨by rfl, by (intro W; go_simp; (try with_reducible rfl))⟩
  (try simp only [Act.put, List.setIfInBounds_toArray, List.set_cons_zero, List.set_cons_succ])
  refine tillH_done (by kernel_rfl) ?_ _
  refine HKV.out _ _ ?_
  go_wp2
  go_ret
  have ba := (Below.refl E3.heap.size E3).alloc (Nat.le_refl _) (.cells (machC (E1.heap.size + 1) (List.replicate 21 0)) 52)
  exact ⟨E3.heap.size, E1.heap.size + 1, rfl, Nat.lt_succ_of_le HZ.out, HX.out.1.hb.lt, Blk.new E3 _ (machC (E1.heap.size + 1) (List.replicate 21 0)), HX.out.1.below ba, HX.out.2.trans (ba.mono HX.out.2.size)⟩
end Go.Proofs.YtdeboajjhpecbaaDoor.Hp
