/- The walk of the statement HeapScopes. -/
import Derived.Test.YtmimnaaofpkndaaDoorHqG
import Derived.Test.YtmimnaaofpkndaaDoorHpL
import Derived.Test.YtmimnaaofpkndaaDoorHpO
set_option linter.unusedVariables false
set_option linter.unusedSimpArgs false
namespace Go.Proofs.YtmimnaaofpkndaaDoor.Hp
open Go.RowKit Go.Proofs.YtmimnaaofpkndaaDoor Go.Shelf

theorem rowZ_full (n : Nat) : rowZ n n = List.replicate n E0 := by simp [rowZ]
/-- Behind the first Scope. -/
structure Sc1 (w1 w : World) (H A ea ga n : Nat) (cv : Value) : Prop where
  hx : Hx w H A A cv nilS nilS [(some (tEnv, ea), false)] [] [] 1
  a_ : Blk w ea 57 #[.slice (some ⟨ga, 0, none⟩) n n, .int .i64 0]
  ra : w.ownsRow 0 34 3 (.slice (some ⟨ga, 0, none⟩) n n) n (valsC (List.replicate n E0))
  bel : Below w1.heap.size w1 w
  lo : w1.heap.size ≤ A ∧ w1.heap.size ≤ ea ∧ w1.heap.size ≤ ga
  cvl : ∀ g, cv.ownBlock = some g → w1.heap.size ≤ g
theorem Sc1.of {w1 w3 W : World} {ea ga n : Nat} {cv : Value} (hI : ScI (newW w1) W ea ga n n 0) (hx : Hx w3 (w1.heap.size + 1) w1.heap.size w1.heap.size cv nilS nilS ([] ++ [(some (tEnv, ea), false)]) [] [] (0 + 1)) (u : Upd W w3 (fun k => k = w1.heap.size ∨ (nilS).ownBlock = some k)) (hc : ∀ g, cv.ownBlock = some g → (nilS).ownBlock = some g ∨ W.heap.size ≤ g) : Sc1 w1 w3 (w1.heap.size + 1) w1.heap.size ea ga n cv := by
  have hs : (newW w1).heap.size = w1.heap.size + 2 := by simp [newW]
  have h1 := hI.lo
  have hb := (newW_below w1).trans (hI.bel.mono (newW_below w1).size)
  have n1 : ∀ k, w1.heap.size + 2 ≤ k → ¬ (k = w1.heap.size ∨ (nilS).ownBlock = some k) := fun k hk h => by
    rcases h with h | h
    · omega
    · simp [Value.ownBlock] at h
  refine ⟨hx, u.blk hI.eb_ (n1 _ (by omega)), ?_, hb.trans (u.below hb.size (fun k hk => ?_)), ⟨Nat.le_refl _, by omega, by omega⟩, fun g hg => ?_⟩
  · have := own_mono (b' := 0) (u.own hI.row (fun k hk => by
      obtain rfl : ga = k := by simpa [Value.ownBlock] using hk
      exact n1 _ (by omega))) (by omega)
    rwa [rowZ_full] at this
  · rcases hk with rfl | h
    · exact Nat.le_refl _
    · simp [Value.ownBlock] at h
  · rcases hc g hg with h | h
    · simp [Value.ownBlock] at h
    · have := hb.size; omega
/-- Both environments, and the symbol. -/
structure Sc3 (w1 w : World) (H A ea eb ga gb n : Nat) (cv fv rv : Value) (cs : List Cell) (fr ro : List Int) (live : Int) : Prop where
  hx : Hx w H A A cv fv rv cs fr ro live
  en : EnvS ea eb ga gb n w
  bel : Below w1.heap.size w1 w
  ne : ea ≠ eb
  lo : w1.heap.size ≤ A ∧ ∀ k, OE ea eb ga gb k → w1.heap.size ≤ k
  cvl : ∀ g, cv.ownBlock = some g → w1.heap.size ≤ g
  rvl : ∀ g, rv.ownBlock = some g → w1.heap.size ≤ g
section
variable {w1 w w' W : World} {H A ea eb ga gb n : Nat} {cv fv rv : Value} {cs : List Cell} {fr ro : List Int} {live : Int}
theorem Sc1.b {cv' : Value} (h : Sc1 w1 w H A ea ga n cv) (hI : ScI w W eb gb 1 1 1) (hx : Hx w' H A A cv' nilS nilS ([(some (tEnv, ea), false)] ++ [(some (tEnv, eb), false)]) [] [] (1 + 1)) (u : Upd W w' (fun k => k = A ∨ cv.ownBlock = some k)) (hc : ∀ g, cv'.ownBlock = some g → cv.ownBlock = some g ∨ W.heap.size ≤ g) : Sc3 w1 w' H A ea eb ga gb n cv' nilS nilS [(some (tEnv, ea), false), (some (tEnv, eb), false)] [] [] 2 := by
  have hb := hI.bel
  have h1 := hI.lo
  have hA := h.hx.ar.blk.lt
  have hcl := fun g hg => (h.hx.ar.cells.lt g hg).2
  have hea := h.a_.lt
  have hga := (h.ra.lt ga rfl).2
  have hu : Upd w w' (fun k => k = A ∨ cv.ownBlock = some k) := (Upd.of_below_all hb).trans u
  have nn : ∀ k, w.heap.size ≤ k → ¬ (k = A ∨ cv.ownBlock = some k) := fun k hk e => by
    rcases e with e | e
    · omega
    · have := hcl k e; omega
  refine ⟨hx, ⟨hu.blk h.a_ (fun e => ?_), u.blk hI.eb_ (nn _ h1.2), hu.own h.ra (fun k hk e => ?_), ?_⟩, h.bel.trans (hu.below h.bel.size (fun k hk => ?_)), by omega, ⟨h.lo.1, fun k hk => ?_⟩, fun g hg => ?_, fun g hg => by simp [Value.ownBlock] at hg⟩
  · rcases e with e | e
    · exact h.a_.ne_ h.hx.ar.blk (by decide) e
    · exact own_blk_ne h.hx.ar.cells h.a_ (by decide) e
  · rcases e with rfl | e
    · exact own_blk_ne h.ra h.hx.ar.blk (by decide) hk
    · rcases own_ne h.ra h.hx.ar.cells (by decide) with q | q
      · rw [q] at hk; cases hk
      · exact q (by rw [hk, e])
  · have := own_mono (b' := 0) (u.own hI.row (fun k hk => by
      obtain rfl : gb = k := by simpa [Value.ownBlock] using hk
      exact nn _ h1.1)) (by omega)
    rwa [rowZ_full] at this
  · rcases hk with rfl | e
    · exact h.lo.1
    · exact h.cvl k e
  · have := h.bel.size
    rcases hk with rfl | rfl | rfl | rfl
    · exact h.lo.2.1
    · omega
    · exact h.lo.2.2
    · omega
  · rcases hc g hg with e | e
    · exact h.cvl g e
    · have := h.bel.size; have := hb.size; omega
/-- What the arena's own steps leave. -/
theorem Sc3.step {cv' fv' rv' : Value} {cs' : List Cell} {fr' ro' : List Int} {live' : Int} {M : Nat → Prop} (h : Sc3 w1 w H A ea eb ga gb n cv fv rv cs fr ro live) (hx : Hx w' H A A cv' fv' rv' cs' fr' ro' live') (en : EnvS ea eb ga gb n w') (u : Upd w w' M) (hM : ∀ k, M k → w1.heap.size ≤ k) (hc : ∀ g, cv'.ownBlock = some g → cv.ownBlock = some g ∨ w.heap.size ≤ g) (hr : ∀ g, rv'.ownBlock = some g → rv.ownBlock = some g ∨ w.heap.size ≤ g) : Sc3 w1 w' H A ea eb ga gb n cv' fv' rv' cs' fr' ro' live' :=
  ⟨hx, en, h.bel.trans (u.below h.bel.size hM), h.ne, h.lo, fun g hg => (hc g hg).elim (h.cvl g) (fun e => Nat.le_trans h.bel.size e), fun g hg => (hr g hg).elim (h.rvl g) (fun e => Nat.le_trans h.bel.size e)⟩
theorem Sc3.below (h : Sc3 w1 w H A ea eb ga gb n cv fv rv cs fr ro live) (b : Below w.heap.size w w') : Sc3 w1 w' H A ea eb ga gb n cv fv rv cs fr ro live :=
  ⟨h.hx.below b, h.en.below b, h.bel.trans (b.mono h.bel.size), h.ne, h.lo, h.cvl, h.rvl⟩
/-- The environments' blocks are none of the arena's. -/
theorem Sc3.far (h : Sc3 w1 w H A ea eb ga gb n cv fv rv cs fr ro live) : FarA (OE ea eb ga gb) A cv fv rv := by
  have r : ∀ {v : Value} {b s m : Nat} {t : TypeId} {xs : List Value}, w.ownsRow b t s v m xs → t ≠ 57 → t ≠ 34 → ∀ g, v.ownBlock = some g → ¬ OE ea eb ga gb g := fun hv t1 t2 g hg e => by
    rcases e with rfl | rfl | rfl | rfl
    · exact own_blk_ne hv h.en.a_ t1 hg
    · exact own_blk_ne hv h.en.b_ t1 hg
    · rcases own_ne hv h.en.ra t2 with q | q
      · rw [q] at hg; cases hg
      · exact q hg
    · rcases own_ne hv h.en.rb t2 with q | q
      · rw [q] at hg; cases hg
      · exact q hg
  refine ⟨fun e => ?_, r h.hx.ar.cells (by decide) (by decide), r h.hx.ar.free (by decide) (by decide), r h.hx.ar.roots (by decide) (by decide)⟩
  rcases e with rfl | rfl | rfl | rfl
  · exact h.hx.ar.blk.ne_ h.en.a_ (by decide) rfl
  · exact h.hx.ar.blk.ne_ h.en.b_ (by decide) rfl
  · exact own_blk_ne h.en.ra h.hx.ar.blk (by decide) rfl
  · exact own_blk_ne h.en.rb h.hx.ar.blk (by decide) rfl
theorem Sc3.noH (h : Sc3 w1 w H A ea eb ga gb n cv fv rv cs fr ro live) : ¬ OE ea eb ga gb H := by
  rintro (rfl | rfl | rfl | rfl)
  · exact h.hx.hb.ne_ h.en.a_ (by decide) rfl
  · exact h.hx.hb.ne_ h.en.b_ (by decide) rfl
  · exact own_blk_ne h.en.ra h.hx.hb (by decide) rfl
  · exact own_blk_ne h.en.rb h.hx.hb (by decide) rfl
theorem Sc3.sym {mb : Nat} {cv' : Value} (h : Sc3 w1 w H A ea eb ga gb n cv nilS nilS [(some (tEnv, ea), false), (some (tEnv, eb), false)] [] [] 2) (hx : Hx w' H A A cv' nilS nilS ([(some (tEnv, ea), false), (some (tEnv, eb), false)] ++ [(some (tMark, mb), false)]) [] [] (2 + 1)) (u : Upd w w' (fun k => k = A ∨ cv.ownBlock = some k)) (hc : ∀ g, cv'.ownBlock = some g → cv.ownBlock = some g ∨ w.heap.size ≤ g) : Sc3 w1 w' H A ea eb ga gb n cv' nilS nilS (scCs ea eb mb) [] [] 3 := by
  refine h.step hx (h.en.upd u (fun k hk e => ?_)) u (fun k hk => ?_) hc (fun g hg => .inl hg)
  · rcases e with rfl | e
    · exact h.far.a hk
    · exact h.far.c k e hk
  · rcases hk with rfl | e
    · exact h.lo.1
    · exact h.cvl k e
theorem Sc3.push {rv' : Value} (h : Sc3 w1 w H A ea eb ga gb n cv fv rv cs fr ro live) {xs : List Int} (hA : Ar w' A A cv fv rv' cs fr (ro ++ xs) live) (u : Upd w w' (fun k => k = A ∨ rv.ownBlock = some k)) (hr : ∀ g, rv'.ownBlock = some g → rv.ownBlock = some g ∨ w.heap.size ≤ g) : Sc3 w1 w' H A ea eb ga gb n cv fv rv' cs fr (ro ++ xs) live := by
  refine h.step ⟨u.blk h.hx.hb (fun e => ?_), hA⟩ (h.en.upd u (fun k hk e => ?_)) u (fun k hk => ?_) (fun g hg => .inl hg) hr
  · rcases e with e | e
    · exact h.hx.hb.ne_ h.hx.ar.blk (by decide) e
    · exact own_blk_ne h.hx.ar.roots h.hx.hb (by decide) e
  · rcases e with rfl | e
    · exact h.far.a hk
    · exact h.far.r k e hk
  · rcases hk with rfl | e
    · exact h.lo.1
    · exact h.rvl k e
/-- Collect. -/
theorem Sc3.collect {mb : Nat} (h : Sc3 w1 w H A ea eb ga gb n cv nilS rv (scCs ea eb mb) [] [2] 3) (hn : n ≤ 1000) :
    Calls Tryd.prog 27 #[.pointer (some ⟨A, 0, none⟩), .nilFunc] w fun e w' => (∃ v, e = .returned v) ∧ ∃ fv', Sc3 w1 w' H A ea eb ga gb n cv fv' rv [(some (tEnv, ea), false), (some (tEnv, eb), false), (none, false)] [3] [2] 2 := by
  refine (collect_g (scOk h.ne hn) h.hx.ar ⟨rfl, h.en⟩ h.far (fun i N hi => ?_) (by simp [scCs]) (by simp) (by simp) (by simp [scCs]) (by decide) (Nat.le_of_lt h.hx.ar.blk.lt) _ (scMark (ga := ga) (gb := gb) (n := n) (mb := mb) h.ne) scCol (fun _ _ h => h)).mono ?_
  · have := bodies_at hi
    simpa [bodies, scCs, scB] using this
  · rintro e w' ⟨vg, fv', O', rfl, har, ⟨rfl, hS⟩, _, _, hu, hf⟩
    refine ⟨⟨_, rfl⟩, fv', h.step (M := fun k => k = A ∨ cv.ownBlock = some k ∨ (nilS).ownBlock = some k ∨ OE ea eb ga gb k ∨ w.heap.size ≤ k) ⟨hu.blk h.hx.hb (fun e => ?_), ?_⟩ hS hu (fun k hk => ?_) (fun g hg => .inl hg) (fun g hg => .inl hg)⟩
    · rcases e with e | e | e | e | e
      · exact h.hx.hb.ne_ h.hx.ar.blk (by decide) e
      · exact own_blk_ne h.hx.ar.cells h.hx.hb (by decide) e
      · simp [Value.ownBlock] at e
      · exact h.noH e
      · have := h.hx.hb.lt; omega
    · have e1 : swL (scM ea eb mb) = [(some (tEnv, ea), false), (some (tEnv, eb), false), (none, false)] := rfl
      have e2 : goneL 0 (scM ea eb mb) = [3] := rfl
      rw [e1, e2] at har
      exact har
    · rcases hk with rfl | e | e | e | e
      · exact h.lo.1
      · exact h.cvl k e
      · simp [Value.ownBlock] at e
      · exact h.lo.2 k e
      · exact Nat.le_trans h.bel.size e
theorem Sc3.typ {mb : Nat} (h : cs = scCs ea eb mb) : ∀ i n, (cs.getD i (none, false)).1 = some n → n.1 = tObj ∨ n.1 = tEnv ∨ n.1 = tMark := fun i n hi => by
  have := bodies_at hi
  subst h
  simp [bodies, scCs] at this
  rcases this with rfl | rfl | rfl <;> simp
end
theorem vobj_any (r : Int) (w : World) : Calls Tryd.prog 25 #[.int .i64 r] w fun e w' => e = .returned (VS 9 r ⟨#[]⟩) ∧ Below w.heap.size w w' := by
  go_enter Tryd.func25, Tryd.ntmps25
  go_wp2
  exact bodyPost_ret (v := VS 9 r ⟨#[]⟩) (by simp [results, Tryd.results25, go_sem]) rfl ⟨rfl, (Below.refl _ _).alloc (Nat.le_refl _) _⟩
theorem valx_any (w : World) : Calls Tryd.prog 13 #[.string ⟨#[120]⟩] w fun e w' => e = .returned (VK (7, 0, ⟨(Tx.ofB ⟨#[120]⟩).toArray⟩)) ∧ Below w.heap.size w w' := Tx.val_any ⟨#[120]⟩ w (by decide)
set_option maxRecDepth 100000 in
set_option maxHeartbeats 16000000 in
theorem scopes_walk (n : Int) (w : World) (hLg : Lg w) : Calls Tryd.prog 5 #[.int .i64 n] w fun e w' => e = .returned (.bool true) ∧ Below w.heap.size w w' := by
  have HF := Lib.hid (fit_any w hLg)
  obtain ⟨K, hK, hK2⟩ := norm_mod n 50 (by omega) (by omega)
  have HK := Lib.hid hK
  clear hK hLg
  go_enter Tryd.func5, Tryd.ntmps5
  go_wp2_with fail
  refine HF.out.mono ?_
  rintro e w1 ⟨rfl, b1⟩
  go_upto_region 4 with fail
  rw [HK.out]
  clear HK
  have hK3 : K < 50 := by omega
  clear hK2
  go_wp2_with fail
  refine (hnew_any w1).mono ?_
  rintro e w2 ⟨rfl, rfl⟩
  have hsa := Lib.hid (scope_any K 0 (newW_hx w1) (by decide) (by decide) (by simp) (newW_below w1).size (by omega))
  go_wp2_with fail
  refine hsa.out.mono ?_
  rintro e w3 ⟨he, W, ea, ga, cv3, hI, _, hx, u, hc⟩
  obtain rfl : e = .returned (.int .i64 1) := he
  have hs := Sc1.of hI hx u hc
  obtain ⟨A, hA⟩ : ∃ A, w1.heap.size = A := ⟨_, rfl⟩
  obtain ⟨H, hH⟩ : ∃ H, A + 1 = H := ⟨_, rfl⟩
  have hs1 : Sc1 w1 w3 H A ea ga K cv3 := by rw [← hH, ← hA]; exact hs
  rw [hA, hH]
  have hsb := Lib.hid (scope_any 1 1 hs1.hx (by decide) (by decide) (by simp) (Nat.le_of_lt hs1.hx.ar.blk.lt) (by decide))
  have HS1 := Lib.hid hs1
  clear hI hx u hc hs hs1 hsa
  go_wp2_with fail
  refine hsb.out.mono ?_
  rintro e w4 ⟨he, W4, eb, gb, cv4, hI, _, hx, u, hc⟩
  obtain rfl : e = .returned (.int .i64 2) := he
  have hs2 := HS1.out.b hI hx u hc
  have HS2 := Lib.hid hs2
  clear hI hx u hc hs2 hsb HS1
  go_wp2_with fail
  refine (valx_any w4).mono ?_
  rintro e w5 ⟨rfl, b5⟩
  have hs2 := HS2.out.below b5
  have hsc := Lib.hid (symbol_any (7, 0, ⟨(Tx.ofB ⟨#[120]⟩).toArray⟩) hs2.hx (by decide) (by decide) (by simp) (Nat.le_of_lt hs2.hx.ar.blk.lt))
  have HS3 := Lib.hid hs2
  clear hs2 HS2 b5
  go_wp2_with fail
  refine hsc.out.mono ?_
  rintro e w6 ⟨he, mb, cv6, _, _, hx, u, hc⟩
  obtain rfl : e = .returned (VS 8 3 ⟨#[]⟩) := he
  have hs3 := HS3.out.sym hx u hc
  obtain ⟨S, hS⟩ : ∃ S, w6.heap.size = S := ⟨_, rfl⟩
  have kv : Blk ((w6.alloc (.cells #[.int .i64 8, .int .i64 3, .string ⟨#[]⟩] 34))) S 34 #[.int .i64 8, .int .i64 3, .string ⟨#[]⟩] := by rw [← hS]; exact Blk.new _ _ _
  have hs4 := hs3.below ((Below.refl _ _).alloc (Nat.le_refl _) (.cells #[.int .i64 8, .int .i64 3, .string ⟨#[]⟩] 34))
  clear hx u hc hs3 hsc HS3
  have HS4 := Lib.hid hs4
  have HKV := Lib.hid kv
  clear hs4 kv
  go_wp2_with fail
  obtain ⟨W0, hW0⟩ : ∃ W0, w6.alloc (.cells #[.int .i64 8, .int .i64 3, .string ⟨#[]⟩] 34) = W0 := ⟨_, rfl⟩
  rw [hW0] at HS4 HKV ⊢
  clear hW0 hS
  refine (env_any 0 ea HS4.out.hx (by simp [scCs]) rfl).mono ?_
  rintro e v1 ⟨rfl, q1, rfl⟩
  have HS5 := Lib.hid (HS4.out.below (below_drw (Below.refl _ _) q1))
  have HK5 := Lib.hid (HKV.out.drewN q1)
  obtain ⟨V1, hV1⟩ : ∃ V, W0.drewN q1 = V := ⟨_, rfl⟩
  rw [hV1] at HS5 HK5 ⊢
  clear hV1 HS4 HKV
  have x0 : V1.cell? ⟨ea, 0, none⟩ = some (.slice (some ⟨ga, 0, none⟩) K K) := by rw [HS5.out.en.a_.cell]; rfl
  have x9 := HS5.out.en.a_.lt
  go_wp2_with fail
  refine (env_any 1 eb HS5.out.hx (by simp [scCs]) rfl).mono ?_
  rintro e v2 ⟨rfl, q2, rfl⟩
  have HS6 := Lib.hid (HS5.out.below (below_drw (Below.refl _ _) q2))
  have HK6 := Lib.hid (HK5.out.drewN q2)
  obtain ⟨V2, hV2⟩ : ∃ V, V1.drewN q2 = V := ⟨_, rfl⟩
  rw [hV2] at HS6 HK6 ⊢
  clear hV2 HS5 HK5 x0 x9
  have x0 : V2.cell? ⟨eb, 1, none⟩ = some (.int .i64 1) := by rw [HS6.out.en.b_.cell]; rfl
  have x9 := HS6.out.en.b_.lt
  go_wp2_with fail
  refine (env_any 0 ea HS6.out.hx (by simp [scCs]) rfl).mono ?_
  rintro e v3 ⟨rfl, q3, rfl⟩
  have HS7 := Lib.hid (HS6.out.below (below_drw (Below.refl _ _) q3))
  have kv := HK6.out.drewN q3
  obtain ⟨W1, hW1⟩ : ∃ V, V2.drewN q3 = V := ⟨_, rfl⟩
  rw [hW1] at HS7 kv ⊢
  clear hW1 HS6 HK6 x0 x9
  have x0 : W1.cell? ⟨ea, 1, none⟩ = some (.int .i64 0) := by rw [HS7.out.en.a_.cell]; rfl
  have x9 := HS7.out.en.a_.lt
  have k0 : W1.cell? ⟨S, 0, none⟩ = some (.int .i64 8) := by rw [kv.cell]; rfl
  have k1 : W1.cell? ⟨S, 1, none⟩ = some (.int .i64 3) := by rw [kv.cell]; rfl
  have k2 : W1.cell? ⟨S, 2, none⟩ = some (.string ⟨#[]⟩) := by rw [kv.cell]; rfl
  have k9 := kv.lt
  have y0 : W1.cell? ⟨H, 0, none⟩ = some (.pointer (some ⟨A, 0, none⟩)) := by rw [HS7.out.hx.hb.cell]; rfl
  have y9 := HS7.out.hx.hb.lt
  go_wp2_with fail
  refine (count_any HS7.out.hx.ar).mono ?_
  rintro e v4 ⟨rfl, rfl⟩
  go_wp2_with fail
  refine (of_no H 8 3 ⟨#[]⟩ _ (by decide)).mono ?_
  rintro e v5 ⟨rfl, b5⟩
  have HS8 := Lib.hid (HS7.out.below b5)
  clear x0 x9 k0 k1 k2 k9 y0 y9 b5 kv HS7
  go_wp2_with fail
  refine (vobj_any 1 _).mono ?_
  rintro e v6 ⟨rfl, b6⟩
  have HS9 := Lib.hid (HS8.out.below b6)
  clear b6 HS8
  go_wp2_with fail
  refine (of_obj 1 ⟨#[]⟩ HS9.out.hx (by simp [scCs]) (Sc3.typ rfl)).mono ?_
  rintro e v7 ⟨he, b7⟩
  obtain rfl : e = .returned (.pointer none) := by rw [he]; simp [objP, scCs, envObj]
  have HS10 := Lib.hid (HS9.out.below b7)
  clear b7 HS9 he
  go_wp2_with fail
  refine (env_any 0 ea HS10.out.hx (by simp [scCs]) rfl).mono ?_
  rintro e v8 ⟨rfl, q8, rfl⟩
  have HS11 := Lib.hid (HS10.out.below (below_drw (Below.refl _ _) q8))
  obtain ⟨W2, hW2⟩ : ∃ W2, v7.drewN q8 = W2 := ⟨_, rfl⟩
  rw [hW2] at HS11 ⊢
  clear hW2 HS10
  have x0 : W2.cell? ⟨ea, 0, none⟩ = some (.slice (some ⟨ga, 0, none⟩) K K) := by rw [HS11.out.en.a_.cell]; rfl
  have x9 := HS11.out.en.a_.lt
  go_wp2_with fail
  go_loopw [86] (fun v wr => ∃ i : Nat, i ≤ K ∧ v = .int .i64 (i : Int) ∧ Hid (Sc3 w1 wr H A ea eb ga gb K cv6 nilS nilS (scCs ea eb mb) [] [] 3)) (fun v _ => K - (intOf v).toNat)
  case atStart => exact ⟨0, Nat.zero_le _, rfl, HS11⟩
  case round =>
    obtain ⟨i, hi, rfl, HB⟩ := hrel
    clear x0 x9 HS11
    by_cases hlt : i < K
    · have t3 : decide ((i : Int) < (K : Int)) = true := by simp; omega
      have z0 : (0 : Int) ≤ (i : Int) := by omega
      have z1 : (i : Int) < (K : Int) := by omega
      have ac : IntKind.i64.wrap ((i : Int) + 1) = (i : Int) + 1 := IntWalk.i64_in _ (by omega)
      have hE : (List.replicate K E0)[i]? = some E0 := by rw [List.getElem?_replicate, if_pos hlt]
      have hrow : wr.ownsRow 0 34 3 (.slice (some ⟨ga, 0, none⟩) K K) (List.replicate K E0).length (valsC (List.replicate K E0)) := by
        rw [List.length_replicate]
        exact HB.out.en.ra
      have e0 : wr.cell? ⟨ga, i * 3, none⟩ = some (.int .i64 10) := own_elem hrow i E0 hE 0 (by decide)
      have e1 : wr.cell? ⟨ga, i * 3 + 1, none⟩ = some (.int .i64 0) := own_elem hrow i E0 hE 1 (by decide)
      have e2 : wr.cell? ⟨ga, i * 3 + 2, none⟩ = some (.string ⟨#[]⟩) := own_elem hrow i E0 hE 2 (by decide)
      have HB1 := Lib.hid (HB.out.below ((Below.refl _ _).alloc (Nat.le_refl _) (.cells #[.int .i64 10, .int .i64 0, .string ⟨#[]⟩] 34)))
      clear hE hrow HB
      go_wp2_with (fail)
      go_roundw
      case rel => exact ⟨i + 1, by omega, by first | rfl | rw [Int.natCast_add], HB1⟩
      case measure => simp only [intOf]; omega
    · have hin : i = K := by omega
      subst hin
      have t3 : decide ((i : Int) < (i : Int)) = false := by simp
      have y0 : wr.cell? ⟨H, 0, none⟩ = some (.pointer (some ⟨A, 0, none⟩)) := by rw [HB.out.hx.hb.cell]; rfl
      have y9 := HB.out.hx.hb.lt
      have hpu : ∀ (W : World), Below wr.heap.size wr W → W.cell? ⟨wr.heap.size, 0, none⟩ = some (.int .i64 2) → Calls Tryd.prog 26 #[.pointer (some ⟨A, 0, none⟩), .slice (some ⟨wr.heap.size, 0, none⟩) 1 1] W fun e w' => (∃ v, e = .returned v) ∧ ∃ rv', Hid (Sc3 w1 w' H A ea eb ga gb i cv6 nilS rv' (scCs ea eb mb) [] [2] 3) := fun W b hc => by
        have hs := HB.out.below b
        refine (push_any [2] ⟨wr.heap.size, 0, none⟩ 1 hs.hx.ar (by decide) (fun j u hj => ?_) (by simp) (by simp) (Nat.le_of_lt hs.hx.ar.blk.lt)).mono ?_
        · rcases j with _ | j
          · simp [numCells] at hj
            subst hj
            exact hc
          · simp [numCells] at hj
        · rintro e w' ⟨hv, rv', har, u, hr⟩
          exact ⟨hv, rv', Lib.hid (hs.push har u hr)⟩
      have HPU := Lib.hid hpu
      have b9 : Below wr.heap.size wr (wr.alloc (.cells #[.int .i64 2] 3)) := (Below.refl _ _).alloc (Nat.le_refl _) _
      have kn : (wr.alloc (.cells #[.int .i64 2] 3)).cell? ⟨wr.heap.size, 0, none⟩ = some (.int .i64 2) := by
        have := Blk.new wr 3 #[.int .i64 2]
        rw [this.cell]; rfl
      have HB9 := Lib.hid (And.intro b9 kn)
      clear hpu HB b9 kn
      go_wp2_with (fail)
      refine (HPU.out _ HB9.out.1 HB9.out.2).mono ?_
      rintro e w7 ⟨⟨v7, rfl⟩, rv', HS⟩
      clear HPU HB9 y0 y9
      have y0 : w7.cell? ⟨H, 0, none⟩ = some (.pointer (some ⟨A, 0, none⟩)) := by rw [HS.out.hx.hb.cell]; rfl
      have y9 := HS.out.hx.hb.lt
      go_wp2_with (fail)
      refine (HS.out.collect (by omega)).mono ?_
      rintro e w8 ⟨⟨v8, rfl⟩, fv', hs8⟩
      have HS8 := Lib.hid hs8
      clear HS hs8 y0 y9
      have y0 : w8.cell? ⟨H, 0, none⟩ = some (.pointer (some ⟨A, 0, none⟩)) := by rw [HS8.out.hx.hb.cell]; rfl
      have y9 := HS8.out.hx.hb.lt
      go_wp2_with (fail)
      refine (count_any HS8.out.hx.ar).mono ?_
      rintro e v9 ⟨rfl, rfl⟩
      go_wp2_with (fail)
      refine (env_any 0 ea HS8.out.hx (by simp) rfl).mono ?_
      rintro e v10 ⟨rfl, q10, rfl⟩
      have hb := b1.trans ((below_drw HS8.out.bel q10).mono b1.size)
      have HBB := Lib.hid hb
      clear hb y0 y9
      go_wp2
      go_ret
      exact ⟨rfl, HBB.out⟩
end Go.Proofs.YtmimnaaofpkndaaDoor.Hp
