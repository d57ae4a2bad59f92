/- ArenaKeeps: Get, and the document's Make. -/
import Derived.Test.YthcdhiknjpfmhaaArKeG
set_option linter.unusedVariables false
set_option linter.unusedSimpArgs false
namespace Go.Proofs.Ythcdhiknjpfmhaa
open Go.RowKit
/-- What Get gives. -/
def getV (cs : List Cell) (r : Int) : Value := if 1 ≤ r ∧ r ≤ cs.length then bodyV (cs.getD (r - 1).toNat (none, false)).1 else .nilIface
set_option maxHeartbeats 1000000 in
theorem get_any {w : World} {A B : Nat} {cv fv rv : Value} {cs : List Cell} {fr ro : List Int} {live : Int} (r : Int) (h : Ar w A B cv fv rv cs fr ro live) (hl : cs.length ≤ 100000000) :
    Calls Try.prog 19 #[.pointer (some ⟨A, 0, none⟩), .int .i64 r] w fun e w' => e = .returned (getV cs r) ∧ ∃ q, w' = w.drewN q := by
  obtain ⟨a, cap, rfl, ha⟩ := own_shape h.cells
  have x0 : w.cell? ⟨A, 0, none⟩ = some (.slice a cs.length cap) := by rw [h.blk.cell]; rfl
  have hcl := h.cells
  obtain ⟨n, hn⟩ : ∃ n, cs.length = n := ⟨_, rfl⟩
  unfold getV
  rw [hn] at x0 ha hcl hl ⊢
  clear h
  by_cases h1 : 1 ≤ r
  · have L1 : decide (r < (1 : Int)) = false := by simpa using h1
    by_cases h2 : r ≤ n
    · have L2 : decide ((n : Int) < r) = false := by simpa using h2
      obtain ⟨i, rfl⟩ : ∃ i : Nat, r = (i : Int) + 1 := ⟨(r - 1).toNat, by omega⟩
      have hin : i < n := by omega
      obtain ⟨gc, rfl⟩ := ha (by omega)
      have w1 : IntKind.i64.wrap ((i : Int) + 1 - 1) = (i : Int) := by rw [IntWalk.i64_in _ (by omega)]; omega
      have e1 : (i : Int) + 1 - 1 = (i : Int) := by omega
      have z0 : (0 : Int) ≤ i := by omega
      have z1 : (i : Int) < n := by omega
      have z2 : (i : Int).toNat = i := by omega
      have hg := clCells_get cs i (by rw [hn]; exact hin)
      have c0 := (hcl.cellAt (i * 2) (by omega)).trans hg.1
      rw [if_pos ⟨h1, h2⟩, e1, z2]
      generalize bodyV (cs.getD i (none, false)).1 = bv at c0 ⊢
      clear hcl hg hn h1 h2 ha
      go_enter Try.func19, Try.ntmps19
      go_wp2
      go_ret
      exact ⟨rfl, by first | exact ⟨0, rfl⟩ | exact ⟨1, rfl⟩⟩
    · have L2 : decide ((n : Int) < r) = true := by simpa using h2
      rw [if_neg (fun h => h2 h.2)]
      clear hcl hn ha
      go_enter Try.func19, Try.ntmps19
      go_wp2
      go_ret
      exact ⟨rfl, by first | exact ⟨0, rfl⟩ | exact ⟨1, rfl⟩⟩
  · have L1 : decide (r < (1 : Int)) = true := by simpa using h1
    rw [if_neg (fun h => h1 h.1)]
    clear hcl hn ha
    go_enter Try.func19, Try.ntmps19
    go_wp2
    go_ret
    exact ⟨rfl, by first | exact ⟨0, rfl⟩ | exact ⟨1, rfl⟩⟩
/-- The document's cells. -/
def lpCells (ys : List Nat) : List Value := .pointer none :: ys.map fun N => .pointer (some ⟨N, 0, none⟩)
theorem infoPN : ((Try.prog.info? 78).map (fun i => (i.zero, i.size, i.bytes))) = some (some (.pointer none), 1, 8) := by kernel_rfl
/-- They lie in a slice, once there is one. -/
def LR (w : World) (B : Nat) (v : Value) (ys : List Nat) : Prop := (ys = [] ∧ v = nil0) ∨ (ys ≠ [] ∧ w.ownsRow B 78 1 v (ys.length + 1) (lpCells ys))
theorem lpCells_snoc (ys : List Nat) (N : Nat) : lpCells ys ++ [.pointer (some ⟨N, 0, none⟩)] = lpCells (ys ++ [N]) := by simp [lpCells]
set_option maxHeartbeats 1000000 in
theorem ref_make {w : World} {M B : Nat} {v : Value} {ys : List Nat} (rv : Value) (N : Nat) (h : LR w B v ys) (hb : Blk w M 49 #[v, nil0, rv]) (hl : ys.length ≤ 100000) (hB : B ≤ w.heap.size) :
    Calls Try.prog 32 #[.pointer (some ⟨M, 0, none⟩), .pointer (some ⟨N, 0, none⟩)] w fun e w' => e = .returned (.int .i64 ((ys.length : Int) + 1)) ∧ ∃ v', Blk w' M 49 #[v', nil0, rv] ∧ LR w' B v' (ys ++ [N]) ∧ Upd w w' (fun k => k = M ∨ v.ownBlock = some k) ∧ (∀ g, v'.ownBlock = some g → v.ownBlock = some g ∨ w.heap.size ≤ g) := by
  obtain ⟨i0, hi, hz0, hz1, hz2⟩ := info_parts infoPN
  have hMl := hb.lt
  rcases h with ⟨rfl, rfl⟩ | ⟨hy, h⟩
  · have x0 : w.cell? ⟨M, 0, none⟩ = some (.slice none 0 0) := by rw [hb.cell]; rfl
    have x1 : w.cell? ⟨M, 1, none⟩ = some (.slice none 0 0) := by rw [hb.cell]; rfl
    have z0 := hb.frozen 0
    have hb1 : Blk ((w.setCell ⟨M, 0, none⟩ (.slice (some ⟨w.heap.size, 0, none⟩) 1 1)).alloc (.cells #[.pointer none] 78)) M 49 #[.slice (some ⟨w.heap.size, 0, none⟩) 1 1, nil0, rv] := (hb.set_ 0 _).alloc _
    have ho1 := World.ownsRow_lit (base := B) (size := 1) (e := 78) (w.setCell ⟨M, 0, none⟩ (.slice (some ⟨w.heap.size, 0, none⟩) 1 1)) #[.pointer none] 1 (by simp; omega) (by decide) rfl
    have hsz : (w.setCell ⟨M, 0, none⟩ (.slice (some ⟨w.heap.size, 0, none⟩) 1 1)).heap.size = w.heap.size := by simp
    rw [hsz] at ho1
    have hnews := World.news_of_block (cs := #[.pointer (some ⟨N, 0, none⟩)]) (t := 78) (fr := (0, 0)) (heap_alloc_new ((w.setCell ⟨M, 0, none⟩ (.slice (some ⟨w.heap.size, 0, none⟩) 1 1)).alloc (.cells #[.pointer none] 78)) (.cells #[.pointer (some ⟨N, 0, none⟩)] 78))
    rw [World.size_alloc, hsz] at hnews
    have HB := Lib.hid (And.intro hb hb1)
    clear hb hb1
    go_enter Try.func32, Try.ntmps32
    go_wp2_with (at_builtin; refine wpList_append_lies _ rfl _ _ 47 rfl B 78 i0 _ 1 8 Try.underlying47 hi hz0 hz1 hz2 rfl (by decide) _ _ _ rfl (ho1.alloc _) ⟨w.heap.size + 1, 0, none⟩ 1 1 [.pointer (some ⟨N, 0, none⟩)] rfl rfl hnews (by simp [Value.oneCell']) (by decide) (by unfold maxLen; omega) (by omega) (by simp; omega) _ rfl ?_)
    intro gg cap w1 hown1 hgrow hat hlt
    have kb : Blk w1 M 49 #[.slice (some ⟨w.heap.size, 0, none⟩) 1 1, nil0, rv] := Blk.grown (HB.out.2.alloc _) hgrow (fun e => own_blk_ne ho1 HB.out.2 (by decide) e.symm)
    have x0' : w1.cell? ⟨M, 0, none⟩ = some (.slice (some ⟨w.heap.size, 0, none⟩) 1 1) := by rw [kb.cell]; rfl
    have z0' := kb.frozen 0
    have hMl' := kb.lt
    have hown3 := own_set hown1 kb (by decide) 0 (.slice (some ⟨gg, 0, none⟩) (1 + 1) cap)
    have kb3 : Blk (w1.setCell ⟨M, 0, none⟩ (.slice (some ⟨gg, 0, none⟩) (1 + 1) cap)) M 49 #[.slice (some ⟨gg, 0, none⟩) (1 + 1) cap, nil0, rv] := kb.set_ 0 _
    have hgrow2 : Upd w w1 (fun k => k = M ∨ nil0.ownBlock = some k) := by
      have u1 : Upd w ((w.setCell ⟨M, 0, none⟩ (.slice (some ⟨w.heap.size, 0, none⟩) 1 1)).alloc (.cells #[.pointer none] 78)) (fun k => k = M ∨ nil0.ownBlock = some k ∨ w.heap.size ≤ k) := ((Upd.refl w _).set M 0 _ (.inl rfl)).alloc _
      refine ((u1.alloc (.cells #[.pointer (some ⟨N, 0, none⟩)] 78)).grown hgrow (fun q e => .inr (.inr ?_))).mono (fun k hk e => ?_)
      · simp [Value.ownBlock] at e; omega
      · rcases e with e | e | e
        · exact .inl e
        · exact .inr e
        · omega
    have u3 := hgrow2.set M 0 (.slice (some ⟨gg, 0, none⟩) (1 + 1) cap) (.inl rfl)
    have hge : w.heap.size ≤ gg := by
      rcases hat with h | h
      · obtain rfl : w.heap.size = gg := by simpa [Value.ownBlock] using h
        omega
      · omega
    have HP := Lib.hid (And.intro hown3 (And.intro kb3 (And.intro u3 hge)))
    clear hown1 hgrow hat hown3 kb3 u3 kb ho1 hnews x0 x1 z0 HB hgrow2 hge
    go_wp2
    go_ret
    exact ⟨rfl, _, HP.out.2.1, .inr ⟨by simp, HP.out.1⟩, HP.out.2.2.1, fun g hg => .inr (by
      obtain rfl : gg = g := by simpa [Value.ownBlock] using hg
      exact HP.out.2.2.2)⟩
  · obtain ⟨a, cap, rfl, ha⟩ := own_shape h
    obtain ⟨g, rfl⟩ := ha (by omega)
    obtain ⟨n, hn⟩ : ∃ n, ys.length = n := ⟨_, rfl⟩
    rw [hn] at hl h hb ⊢
    have hn1 : 1 ≤ n := by have := List.length_pos_iff.2 hy; omega
    have x0 : w.cell? ⟨M, 0, none⟩ = some (.slice (some ⟨g, 0, none⟩) (n + 1) cap) := by rw [hb.cell]; rfl
    have x1 : w.cell? ⟨M, 1, none⟩ = some (.slice none 0 0) := by rw [hb.cell]; rfl
    have z0 := hb.frozen 0
    have hnews := World.news_of_block (cs := #[.pointer (some ⟨N, 0, none⟩)]) (t := 78) (fr := (0, 0)) (heap_alloc_new w (.cells #[.pointer (some ⟨N, 0, none⟩)] 78))
    have HB := Lib.hid hb
    clear hb
    have b0 : (((n + 1 : Nat) : Int) == 0) = false := by simp; omega
    go_enter Try.func32, Try.ntmps32
    go_wp2_with (at_builtin; refine wpList_append_lies _ rfl _ _ 47 rfl B 78 i0 _ 1 8 Try.underlying47 hi hz0 hz1 hz2 rfl (by decide) _ _ _ rfl (h.alloc _) ⟨w.heap.size, 0, none⟩ 1 1 [.pointer (some ⟨N, 0, none⟩)] rfl rfl hnews (by simp [Value.oneCell']) (by decide) (by unfold maxLen; omega) (by omega) (by simp; omega) _ rfl ?_)
    intro gg cap1 w1 hown1 hgrow hat hlt
    have kb : Blk w1 M 49 #[.slice (some ⟨g, 0, none⟩) (n + 1) cap, nil0, rv] := Blk.grown (HB.out.alloc _) hgrow (fun e => own_blk_ne h HB.out (by decide) e.symm)
    have x0' : w1.cell? ⟨M, 0, none⟩ = some (.slice (some ⟨g, 0, none⟩) (n + 1) cap) := by rw [kb.cell]; rfl
    have z0' := kb.frozen 0
    have hMl' := kb.lt
    have hown3 := own_set hown1 kb (by decide) 0 (.slice (some ⟨gg, 0, none⟩) (n + 1 + 1) cap1)
    have kb3 : Blk (w1.setCell ⟨M, 0, none⟩ (.slice (some ⟨gg, 0, none⟩) (n + 1 + 1) cap1)) M 49 #[.slice (some ⟨gg, 0, none⟩) (n + 1 + 1) cap1, nil0, rv] := kb.set_ 0 _
    have u3 : Upd w (w1.setCell ⟨M, 0, none⟩ (.slice (some ⟨gg, 0, none⟩) (n + 1 + 1) cap1)) (fun k => k = M ∨ (Value.slice (some ⟨g, 0, none⟩) (n + 1) cap).ownBlock = some k) := (((Upd.refl w _).alloc _).grown hgrow (fun q e => .inr e)).set M 0 _ (.inl rfl)
    have hge : (Value.slice (some ⟨g, 0, none⟩) (n + 1) cap).ownBlock = some gg ∨ w.heap.size ≤ gg := by
      rcases hat with h | h
      · exact .inl h
      · exact .inr (by omega)
    have HP := Lib.hid (And.intro hown3 (And.intro kb3 (And.intro u3 hge)))
    clear hown1 hgrow hat hown3 kb3 u3 kb h hnews x0 x1 z0 HB hge
    go_wp2
    go_ret
    refine ⟨rfl, _, HP.out.2.1, .inr ⟨by simp, ?_⟩, HP.out.2.2.1, fun k hk => ?_⟩
    · rw [List.length_append, hn, ← lpCells_snoc]; exact HP.out.1
    · obtain rfl : gg = k := by simpa [Value.ownBlock] using hk
      exact HP.out.2.2.2
end Go.Proofs.Ythcdhiknjpfmhaa
