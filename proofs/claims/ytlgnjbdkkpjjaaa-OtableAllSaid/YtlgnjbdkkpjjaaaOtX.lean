/- Contracts of the reference's Put, Delete and Clear. -/
import Derived.Test.YtlgnjbdkkpjjaaaOtU
set_option linter.unusedVariables false
set_option linter.unusedSimpArgs false
namespace Go.Proofs.Ytlgnjbdkkpjjaaa
open Go.RowKit Go.Sort

theorem infoREnt : (Try.prog.info? 63).map (fun i => (i.zero, i.size, i.bytes)) = some (some (.agg #[.int .i64 0, .int .i64 0, .string ⟨#[]⟩, .int .i64 0, .int .i64 0, .string ⟨#[]⟩, .int .i64 0, .bool false]), 8, 80) := by kernel_rfl
abbrev e0 (k : K3) : Ent := ⟨norm k, (0, 0, ⟨#[]⟩), 0, false⟩
section
variable {w w' w2 : World} {M g n cap : Nat} {lv : Value} {L : List Ent} {cl : Int} {O O' : Nat → Prop}
theorem RTab.widen (h : RTab w M lv L cl O) (h1 : ∀ k, O k → O' k) (h2 : ∀ k, O' k → k < w.heap.size) : RTab w M lv L cl O' := ⟨h.blk, h.ents, h1 _ h.oM, fun g hg => h1 g (h.oL g hg), h2⟩
theorem RTab.grow (h : RTab w M lv L cl O) : RTab w M lv L cl (Og O w w) := h.widen (fun k hk => .inl hk) (fun k hk => by
  rcases hk with hk | ⟨_, hk⟩
  · exact h.oLt k hk
  · exact hk)
/-- An entry written over. -/
theorem RTab.setEnt (h : RTab w M (.slice (some ⟨g, 0, none⟩) L.length cap) L cl O) {j r : Nat} {e e' : Ent} {l : List Value} (he : L[j]? = some e) (hl : r + l.length ≤ 8) (hc : entC e' = (entC e).take r ++ l ++ (entC e).drop (r + l.length)) :
    RTab (setsAt w g (j * 8 + r) l) M (.slice (some ⟨g, 0, none⟩) (L.set j e').length cap) (L.set j e') cl O ∧ Upd w (setsAt w g (j * 8 + r) l) O := by
  have u := setsAt_upd w g (j * 8 + r) l
  have hg : (Value.slice (some ⟨g, 0, none⟩) L.length cap).ownBlock = some g := rfl
  rw [List.length_set]
  refine ⟨⟨u.blk h.blk (fun e => own_blk_ne h.ents h.blk (by decide) (by rw [hg, ← e])), ?_, h.oM, h.oL, fun k hk => Nat.lt_of_lt_of_le (h.oLt k hk) u.size⟩, u.mono (fun k _ hk => by rw [hk]; exact h.oL g rfl)⟩
  rw [List.length_set, ← sets_ents he hl hc]
  exact setsAt_own h.ents _ _
/-- The row anew. -/
theorem rput_row {w6 w7 : World} {gq capq : Nat} {E : Ent} {o : Obj} (ht : RTab w6 M lv L cl O) (hg : (w6.alloc o).grownBy w7 lv.ownBlock)
    (hown : w7.ownsRow 0 63 8 (.slice (some ⟨gq, 0, none⟩) (L.length + 1) capq) (L.length + 1) (entsC L ++ entC E)) (hat : lv.ownBlock = some gq ∨ gq = w6.heap.size + 1) :
    RTab (w7.setCell ⟨M, 0, none⟩ (.slice (some ⟨gq, 0, none⟩) (L.length + 1) capq)) M (.slice (some ⟨gq, 0, none⟩) (L ++ [E]).length capq) (L ++ [E]) cl (Og O w6 w7) ∧ Upd w6 (w7.setCell ⟨M, 0, none⟩ (.slice (some ⟨gq, 0, none⟩) (L.length + 1) capq)) O := by
  have u : Upd w6 w7 (fun k => lv.ownBlock = some k) := ((Upd.refl w6 _).alloc o).grown hg (fun k hk => hk)
  have hbT := u.blk ht.blk (own_blk_ne ht.ents ht.blk (by decide))
  have hlen : (L ++ [E]).length = L.length + 1 := by simp
  have hrow : w7.ownsRow 0 63 8 (.slice (some ⟨gq, 0, none⟩) (L.length + 1) capq) (L ++ [E]).length (entsC (L ++ [E])) := by
    rw [hlen, entsC_append]
    simpa [entsC] using hown
  have hz : w6.heap.size + 1 ≤ w7.heap.size := by have := hg.size; simpa using this
  rw [hlen]
  refine ⟨⟨hbT.set_ 0 _, own_set (by rw [hlen] at hrow ⊢; exact hrow) hbT (by decide) _ _, .inl ht.oM, fun k hk => ?_, fun k hk => ?_⟩, (u.mono (fun k _ hk => ht.oL k hk)).set M 0 _ ht.oM⟩
  · have hk2 := hown.lt k hk
    rcases hat with e | e
    · exact .inl (ht.oL k (by rw [← hk]; exact e))
    · have hgk : gq = k := by simpa [Value.ownBlock] using hk
      exact .inr ⟨by omega, hk2.2⟩
  · rcases hk with hk | ⟨_, hk⟩
    · have := ht.oLt k hk; simp; omega
    · simpa using hk
end
/-! ### The plain law -/
def Res (L L1 : List Ent) (k : K3) (j : Nat) (e : Ent) : Prop := (L1 = L ∧ isKey k e = true) ∨ (L1 = L ++ [e0 k] ∧ j = L.length ∧ (∀ x ∈ L, isKey k x = false))
theorem cnt_app (L M : List Ent) (a : Nat) (h : a ≤ L.length) : cnt (L ++ M) a = cnt L a := by
  unfold cnt; rw [List.take_append_of_le_length h]
theorem cnt_set (L : List Ent) (j : Nat) (e e' : Ent) (he : L[j]? = some e) (hg : e'.grave = e.grave) (a : Nat) : cnt (L.set j e') a = cnt L a := by
  have h1 : ∀ l : List Ent, (cp l).length = (l.map (fun x => x.grave)).count false := by
    intro l
    induction l with
    | nil => rfl
    | cons x l ih =>
      rw [List.map_cons, List.count_cons, ← ih]
      cases hx : x.grave <;> simp [cp, hx]
  unfold cnt
  rw [h1, h1, List.map_take, List.map_take, List.map_set]
  congr 2
  apply List.ext_getElem?
  intro i
  rw [List.getElem?_set]
  by_cases h : j = i
  · subst h
    rw [if_pos rfl, List.getElem?_map, he]
    have := (List.getElem?_eq_some_iff.1 he).1
    simp [this, hg]
  · rw [if_neg h]
theorem isKey_cp {L : List Ent} {k : K3} (h : ∀ x ∈ L, isKey k x = false) : (cp L).any (isKey k) = false := by
  rw [List.any_eq_false]; intro x hx; rw [h x (mem_cp hx).1]; simp
theorem rput_law {L L1 : List Ent} {k v : K3} {f : Int} {j : Nat} {e : Ent} (hd : Dist L) (hj : L1[j]? = some e) (hr : Res L L1 k j e) :
    cp (L1.set j { e with val := v, flags := f }) = putA k v f (cp L) ∧ (∀ a, a ≤ L.length → cnt (L1.set j { e with val := v, flags := f }) a = cnt L a) ∧ L.length ≤ (L1.set j { e with val := v, flags := f }).length ∧ (L1.set j { e with val := v, flags := f }).length ≤ L.length + 1 := by
  rcases hr with ⟨rfl, hk⟩ | ⟨rfl, rfl, hn⟩
  · have hm : e ∈ cp L1 := List.mem_filter.2 ⟨List.mem_of_getElem? hj, by simp [(isKey_true.1 hk).1]⟩
    refine ⟨?_, fun a _ => cnt_set L1 j e { e with val := v, flags := f } hj rfl a, by simp, by simp⟩
    rw [set_upd hd k v f j e hj hk, cp_upd, putA, if_pos (List.any_eq_true.2 ⟨e, hm, hk⟩)]
  · rw [List.getElem?_append_right (Nat.le_refl _), Nat.sub_self] at hj
    obtain rfl : e0 k = e := by simpa using hj
    have hs : (L ++ [e0 k]).set L.length { e0 k with val := v, flags := f } = L ++ [⟨norm k, v, f, false⟩] := by
      rw [List.set_append_right _ _ (Nat.le_refl _), Nat.sub_self]; rfl
    rw [hs]
    refine ⟨?_, fun a ha => cnt_app _ _ a ha, by simp, by simp⟩
    rw [cp_append, putA, if_neg (by rw [isKey_cp hn]; simp)]; rfl

theorem rput_mid {w8 w7 : World} {M n : Nat} {lv lc : Value} {xs : List Value} {o : Obj} (hb : Blk w8 M 54 #[lv, lc]) (ho : w8.ownsRow 0 63 8 lv n xs) (hg : (w8.alloc o).grownBy w7 lv.ownBlock) :
    w7.cell? ⟨M, 0, none⟩ = some lv ∧ w7.frozen? ⟨M, 0, none⟩ = false := by
  have u : Upd w8 w7 (fun k => lv.ownBlock = some k) := ((Upd.refl w8 _).alloc o).grown hg (fun k hk => hk)
  have hb7 := u.blk hb (own_blk_ne ho hb (by decide))
  exact ⟨by rw [hb7.cell]; rfl, hb7.frozen 0⟩
def RPutP (M : Nat) (k v : K3) (f : Int) (L : List Ent) (cl : Int) (O : Nat → Prop) (w : World) (e : Ending) (w' : World) : Prop :=
  e = .returned (.tuple #[]) ∧ (∃ lv' L', RTab w' M lv' L' cl (Og O w w') ∧ cp L' = putA k v f (cp L) ∧ (∀ a, a ≤ L.length → cnt L' a = cnt L a) ∧ L.length ≤ L'.length ∧ L'.length ≤ L.length + 1) ∧ Upd w w' O
theorem run_rkey (av : Value) (w : World) : (callFunc 40 #[av]).run Try.prog w = .ok (.enter 40 #[av]) w := by go_simp
theorem rput_key {w6 w8 : World} {M : Nat} {n : Nat} {lv lc : Value} {xs : List Value} (hb : Blk w6 M 54 #[lv, lc]) (ho : w6.ownsRow 0 63 8 lv n xs) (b : Below w6.heap.size w6 w8) :
    w8.cell? ⟨M, 0, none⟩ = some lv ∧ w8.ownsRow 0 63 8 lv n xs ∧ Hid (Blk w8 M 54 #[lv, lc]) ∧ M < w8.heap.size := by
  have hb8 := hb.below b hb.lt
  exact ⟨by rw [hb8.cell]; rfl, (Upd.of_below_all (M := fun _ => False) b).own ho (fun _ _ h => h), Lib.hid hb8, hb8.lt⟩

theorem RPutP.drewN {M : Nat} {k v : K3} {f : Int} {L : List Ent} {cl : Int} {O : Nat → Prop} {w w' : World} {e : Ending} (h : RPutP M k v f L cl O w e w') (q : Nat) : RPutP M k v f L cl O w e (w'.drewN q) := by
  obtain ⟨h1, ⟨lv, L', h2, h3⟩, h4⟩ := h
  exact ⟨h1, ⟨lv, L', ⟨h2.blk, h2.ents, h2.oM, h2.oL, h2.oLt⟩, h3⟩, h4.drewN q⟩
theorem RPutP.drew {M : Nat} {k v : K3} {f : Int} {L : List Ent} {cl : Int} {O : Nat → Prop} {w w' : World} {e : Ending} (h : RPutP M k v f L cl O w e w') : RPutP M k v f L cl O w e w'.drew := h.drewN 1
set_option maxHeartbeats 4000000 in
set_option maxRecDepth 100000 in
theorem rput_any (M : Nat) (lv : Value) (L : List Ent) (cl : Int) (O : Nat → Prop) (k v : K3) (f : Int) (w : World) (h : RTab w M lv L cl O) (hL : L.length ≤ 4000) (hn : ∀ e ∈ L, e.grave = false → norm e.key = e.key) (hd : Dist L) :
    Calls Try.prog 31 #[.pointer (some ⟨M, 0, none⟩), VK k, VK v, .int .i64 f] w (RPutP M k v f L cl O w) := by
  have hb1 : Below w.heap.size w ((w.alloc (SC k.1 k.2.1 k.2.2)).alloc (SC v.1 v.2.1 v.2.2)) := ((Below.refl _ _).alloc (Nat.le_refl _) _).alloc (by simp) _
  have h1 := h.below hb1
  have kb := (Blk.new w 27 #[.int .i64 k.1, .int .i64 k.2.1, .string k.2.2]).alloc (SC v.1 v.2.1 v.2.2)
  have vb := Blk.new (w.alloc (SC k.1 k.2.1 k.2.2)) 27 #[.int .i64 v.1, .int .i64 v.2.1, .string v.2.2]
  rw [World.size_alloc] at vb
  go_enter Try.func31, Try.ntmps31
  go_wp2_with fail
  generalize ((w.alloc (SC k.1 k.2.1 k.2.2)).alloc (SC v.1 v.2.1 v.2.2)) = w1 at *
  refine (rfind_any M lv L cl O k w1 h1 (by omega) hn).mono ?_
  rintro e w2 ⟨i, rfl, hf, b2⟩
  have h2 := h1.below b2
  have hb2 := hb1.trans (b2.mono hb1.size)
  have kb2 := kb.below b2 kb.lt
  have vb2 := vb.below b2 vb.lt
  have hu2 : Upd w w2 O := Upd.of_below_all hb2
  obtain ⟨bb, tb⟩ : ∃ b, decide (i < 0) = b := ⟨_, rfl⟩
  obtain ⟨A0, c0, rfl, hA0⟩ := own_shape h2.ents
  obtain ⟨n, hnn⟩ : ∃ n, L.length = n := ⟨_, rfl⟩
  rw [hnn] at hL
  have x0 : w2.cell? ⟨M, 0, none⟩ = some (.slice A0 n c0) := by rw [h2.blk.cell, ← hnn]; rfl
  have k0 : w2.cell? ⟨w.heap.size, 0, none⟩ = some (.int .i64 k.1) := by rw [kb2.cell]; rfl
  have k1 : w2.cell? ⟨w.heap.size, 1, none⟩ = some (.int .i64 k.2.1) := by rw [kb2.cell]; rfl
  have k2 : w2.cell? ⟨w.heap.size, 2, none⟩ = some (.string k.2.2) := by rw [kb2.cell]; rfl
  have HF := Lib.hid hf
  have HT := Lib.hid h2
  have HB : Hid (Blk w2 M 54 #[.slice A0 n c0, .int .i64 cl]) := Lib.hid (by rw [← hnn]; exact h2.blk)
  have HE : Hid (w2.ownsRow 0 63 8 (.slice A0 n c0) n (entsC L)) := Lib.hid (by rw [← hnn]; exact h2.ents)
  have HU := Lib.hid hu2
  have HV := Lib.hid vb2
  have HN := Lib.hid hnn
  have HD := Lib.hid hd
  have HA := Lib.hid hA0
  have HO := Lib.hid (show M < w2.heap.size from h2.blk.lt)
  have HOL := Lib.hid (show ∀ k, O k → k < w.heap.size from h.oLt)
  obtain ⟨iE, hiE, hE0, hE1, hE2⟩ := info_parts infoREnt
  have hlT : M < w2.heap.size := h2.blk.lt
  have hlK : w.heap.size < w2.heap.size := kb2.lt
  have hlV : w.heap.size + 1 < w2.heap.size := vb2.lt
  clear hf h h1 h2 hb1 b2 hb2 kb vb kb2 vb2 hu2 hn hd hA0
  go_upto_if 13 with fail
  go_cut [8] (fun s8 wx => ∃ (g cap j m : Nat) (e : Ent) (L1 : List Ent), s8 = .int .i64 (j : Int) ∧ L1.length = m ∧ m ≤ 4001 ∧ RTab wx M (.slice (some ⟨g, 0, none⟩) m cap) L1 cl (Og O w wx) ∧ L1[j]? = some e ∧ Res L L1 k j e ∧ Upd w wx O ∧ Blk wx (w.heap.size + 1) 27 #[.int .i64 v.1, .int .i64 v.2.1, .string v.2.2])
  case first =>
    cases bb
    · have hi : ¬ i < 0 := of_decide_eq_false tb
      rcases HF.out with ⟨rfl, _⟩ | ⟨j, e, rfl, hj, hk⟩
      · exact absurd (by decide) hi
      · have hjl := (List.getElem?_eq_some_iff.1 hj).1
        obtain ⟨g, rfl⟩ := HA.out (by omega)
        have hres : ∃ (g' cap j' m : Nat) (e : Ent) (L1 : List Ent), Value.int .i64 (j : Int) = .int .i64 (j' : Int) ∧ L1.length = m ∧ m ≤ 4001 ∧ RTab w2 M (.slice (some ⟨g', 0, none⟩) m cap) L1 cl (Og O w w2) ∧ L1[j']? = some e ∧ Res L L1 k j' e ∧ Upd w w2 O ∧ Blk w2 (w.heap.size + 1) 27 #[.int .i64 v.1, .int .i64 v.2.1, .string v.2.2] :=
          ⟨g, c0, j, n, e, L, rfl, HN.out, by omega, (by have := HT.out; rw [HN.out] at this; exact this.widen (fun k hk => .inl hk) (fun k hk => by
            rcases hk with hk | ⟨_, hk⟩
            · exact HT.out.oLt k hk
            · exact hk)), hj, .inl ⟨rfl, hk⟩, HU.out, HV.out⟩
        have HR := Lib.hid hres
        clear hres hj hk x0 k0 k1 k2 hi
        go_wp2_with fail
        go_meet
        exact HR.out
    · have hi : i < 0 := of_decide_eq_true tb
      have hno : i = -1 ∧ ∀ x ∈ L, isKey k x = false := by
        rcases HF.out with h | ⟨j, e, rfl, _, _⟩
        · exact h
        · omega
      have HNO := Lib.hid hno.2
      clear hno hi
      go_upto_region 3 with fail
      go_cut [] (fun wx => ∃ w8 gq capq w7, Below w2.heap.size w2 w8 ∧ (w8.alloc (.cells (entC (e0 k)).toArray 63)).grownBy w7 (Value.slice A0 n c0).ownBlock ∧ w7.ownsRow 0 63 8 (.slice (some ⟨gq, 0, none⟩) (n + 1) capq) (n + 1) (entsC L ++ entC (e0 k)) ∧ ((Value.slice A0 n c0).ownBlock = some gq ∨ gq = w8.heap.size + 1) ∧ wx = w7.setCell ⟨M, 0, none⟩ (.slice (some ⟨gq, 0, none⟩) (n + 1) capq))
      case first =>
        go_region_law (first
          | (refine step_call_below (by rfl) 40 _ _ (by rfl) _ _ (by rfl) (run_rkey _ _) (rkey_any k _) ?_; intro w8 b8d; have b8 : Below w2.heap.size w2 w8 := ((Below.refl w2.heap.size w2).drew).trans b8d; obtain ⟨y0, hown8, HB8, hlt8⟩ := rput_key HB.out HE.out b8)
          | (refine step_append_lies _ (by rfl) _ _ _ (by rfl) 0 63 iE _ 8 80 Try.underlying52 hiE hE0 hE1 hE2 rfl (by omega) (.slice A0 n c0) n (entsC L) (by rfl) (hown8.alloc _) ⟨w8.heap.size, 0, none⟩ 1 1 (entC (e0 k)) (by rfl) (by rfl) (World.news_of_block (cs := (entC (e0 k)).toArray) (t := 63) (fr := (0, 0)) (heap_alloc_new w8 _)) (by simp [Value.oneCell', entC, k3C]) (by omega) (by unfold maxLen; omega) (by omega) (Nat.zero_le _) (w8.heap.size + 1) (by simp) ?_; intro gq capq w7 hown7 hgrow hat hl; obtain ⟨d9, e9⟩ := rput_mid HB8.out hown8 hgrow))
        all_goals
          go_wp2_with fail
          go_meet
          exact ⟨w8, gq, capq, w7, b8, hgrow, hown7, hat, rfl⟩
      case rest =>
        obtain ⟨w8, gq, capq, w7, b8, hg7, hown7, hat7, rfl⟩ := hcut
        rw [← hnn] at hg7 hown7 hat7
        obtain ⟨hrow, hup⟩ := rput_row (HT.out.below b8) hg7 hown7 hat7
        rw [hnn] at hrow hup
        have hlen : (L ++ [e0 k]).length = n + 1 := by simp [hnn]
        rw [hlen] at hrow
        have hsz8 : w.heap.size ≤ w8.heap.size := Nat.le_trans HU.out.size b8.size
        have hV7 : Blk (w7.setCell ⟨M, 0, none⟩ (.slice (some ⟨gq, 0, none⟩) (n + 1) capq)) (w.heap.size + 1) 27 #[.int .i64 v.1, .int .i64 v.2.1, .string v.2.2] :=
          hup.blk (HV.out.below b8 HV.out.lt) (fun hO => by have := HOL.out _ hO; omega)
        have hU7 : Upd w (w7.setCell ⟨M, 0, none⟩ (.slice (some ⟨gq, 0, none⟩) (n + 1) capq)) O := (HU.out.then_below b8).trans hup
        generalize (w7.setCell ⟨M, 0, none⟩ (.slice (some ⟨gq, 0, none⟩) (n + 1) capq)) = W at *
        have x0 : W.cell? ⟨M, 0, none⟩ = some (.slice (some ⟨gq, 0, none⟩) (n + 1) capq) := by rw [hrow.blk.cell]; rfl
        have aw : IntKind.i64.wrap (((n : Int) + 1) - 1) = (n : Int) := by rw [IntWalk.i64_in _ (by omega)]; omega
        have hres : ∃ (g' cap j' m : Nat) (e : Ent) (L1 : List Ent), Value.int .i64 (n : Int) = .int .i64 (j' : Int) ∧ L1.length = m ∧ m ≤ 4001 ∧ RTab W M (.slice (some ⟨g', 0, none⟩) m cap) L1 cl (Og O w W) ∧ L1[j']? = some e ∧ Res L L1 k j' e ∧ Upd w W O ∧ Blk W (w.heap.size + 1) 27 #[.int .i64 v.1, .int .i64 v.2.1, .string v.2.2] :=
          ⟨gq, capq, n, n + 1, e0 k, L ++ [e0 k], rfl, hlen, by omega, hrow.widen (fun x hx => by
            rcases hx with hx | ⟨h3, h4⟩
            · exact .inl hx
            · have := hrow.oLt x (.inr ⟨h3, h4⟩)
              exact .inr ⟨by omega, this⟩) (fun x hx => by
            rcases hx with hx | ⟨_, hx⟩
            · exact Nat.lt_of_lt_of_le (HOL.out x hx) hU7.size
            · exact hx), by rw [List.getElem?_append_right (by omega), hnn, Nat.sub_self]; rfl, .inr ⟨rfl, hnn.symm, HNO.out⟩, hU7, hV7⟩
        have HR := Lib.hid hres
        clear hres hup hg7 hown7 hat7 hV7 hU7 k0 k1 k2
        go_wp2_with fail
        go_meet
        first | exact HR.out | (rw [show ((n + 1 : Nat) : Int) - 1 = (n : Int) by omega]; exact HR.out)
  case rest =>
    obtain ⟨g, cap, j, m, e, L1, rfl, hm, hm4, hR, hj, hres, hU, hV⟩ := hcut
    have hjl := (List.getElem?_eq_some_iff.1 hj).1
    have x0 : wc.cell? ⟨M, 0, none⟩ = some (.slice (some ⟨g, 0, none⟩) m cap) := by rw [hR.blk.cell]; rfl
    have hR' : RTab wc M (.slice (some ⟨g, 0, none⟩) L1.length cap) L1 cl (Og O w wc) := by rw [hm]; exact hR
    have e3 : wc.cell? ⟨g, j * 8 + 3, none⟩ = some (.int .i64 e.val.1) := hR.ent j e hj 3 (by decide)
    have e4 : wc.cell? ⟨g, j * 8 + 4, none⟩ = some (.int .i64 e.val.2.1) := hR.ent j e hj 4 (by decide)
    have e5 : wc.cell? ⟨g, j * 8 + 5, none⟩ = some (.string e.val.2.2) := hR.ent j e hj 5 (by decide)
    have e6 : wc.cell? ⟨g, j * 8 + 6, none⟩ = some (.int .i64 e.flags) := hR.ent j e hj 6 (by decide)
    have f3 := World.ownsRow.frozenAt hR'.ents (j * 8 + 3)
    have f4 := World.ownsRow.frozenAt hR'.ents (j * 8 + 4)
    have f5 := World.ownsRow.frozenAt hR'.ents (j * 8 + 5)
    have f6 := World.ownsRow.frozenAt hR'.ents (j * 8 + 6)
    have n1 : M ≠ g := fun e => own_blk_ne hR.ents hR.blk (by decide) (by rw [e]; rfl)
    have n2 : g ≠ w.heap.size + 1 := fun e => own_blk_ne hR.ents hV (by decide) (by rw [← e]; rfl)
    have n3 := n1.symm
    have n4 := n2.symm
    have v0 : wc.cell? ⟨w.heap.size + 1, 0, none⟩ = some (.int .i64 v.1) := by rw [hV.cell]; rfl
    have v1 : wc.cell? ⟨w.heap.size + 1, 1, none⟩ = some (.int .i64 v.2.1) := by rw [hV.cell]; rfl
    have v2 : wc.cell? ⟨w.heap.size + 1, 2, none⟩ = some (.string v.2.2) := by rw [hV.cell]; rfl
    have hlV := hV.lt
    have hlT := hR.blk.lt
    obtain ⟨hset, hup⟩ := hR'.setEnt (r := 3) (e' := { e with val := v, flags := f }) (l := [.int .i64 v.1, .int .i64 v.2.1, .string v.2.2, .int .i64 f]) hj (by simp) rfl
    have hlaw := rput_law (v := v) (f := f) HD.out hj hres
    simp only [setsAt] at hset hup
    have hUf : Upd w ((((wc.setCell ⟨g, j * 8 + 3, none⟩ (.int .i64 v.1)).setCell ⟨g, j * 8 + 3 + 1, none⟩ (.int .i64 v.2.1)).setCell ⟨g, j * 8 + 3 + 1 + 1, none⟩ (.string v.2.2)).setCell ⟨g, j * 8 + 3 + 1 + 1 + 1, none⟩ (.int .i64 f)) O := ((hU.mono (fun k _ hk => Or.inl hk)).trans hup).mono (fun k hk hk2 => by
      rcases hk2 with hk2 | ⟨h3, _⟩
      · exact hk2
      · exact absurd hk (by omega))
    have hfin : RPutP M k v f L cl O w (.returned (.tuple #[])) ((((wc.setCell ⟨g, j * 8 + 3, none⟩ (.int .i64 v.1)).setCell ⟨g, j * 8 + 3 + 1, none⟩ (.int .i64 v.2.1)).setCell ⟨g, j * 8 + 3 + 1 + 1, none⟩ (.string v.2.2)).setCell ⟨g, j * 8 + 3 + 1 + 1 + 1, none⟩ (.int .i64 f)) :=
      ⟨rfl, ⟨_, _, hset.widen (fun x hx => by
        rcases hx with hx | ⟨h3, h4⟩
        · exact .inl hx
        · exact .inr ⟨h3, by simpa using h4⟩) (fun x hx => by
        rcases hx with hx | ⟨_, hx⟩
        · exact Nat.lt_of_lt_of_le (HOL.out x hx) hUf.size
        · exact hx), hlaw⟩, hUf⟩
    have j0 : (0 : Int) ≤ (j : Int) := by omega
    have j1 : (j : Int) < (m : Int) := by omega
    have HR := Lib.hid hfin
    clear hfin hUf hlaw hset hup hR hR' hres hj hU hV HF HT HB HE HU HV HN HD HA
    have HS := Lib.hid HR.out.drew
    go_wp2_with fail
    go_region
    all_goals
      go_wp2
      go_end0
      first | exact HR.out | exact HS.out
end Go.Proofs.Ytlgnjbdkkpjjaaa
