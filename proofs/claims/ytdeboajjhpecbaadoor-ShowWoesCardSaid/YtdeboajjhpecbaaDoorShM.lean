/- ShM: several texts in one. -/
import Derived.Test.YtdeboajjhpecbaaDoorShD
import Derived.Test.YtdeboajjhpecbaaDoorShI
/- Show: objects of any kind: Own; a machine's Own. -/
set_option linter.unusedVariables false
set_option linter.unusedSimpArgs false
namespace Go.Proofs.YtdeboajjhpecbaaDoor.Hp
open Go.RowKit Go.Proofs.YtdeboajjhpecbaaDoor Go.Shelf
/-- An object's cells, its kind told. -/
abbrev objF (cl pr : Int) (clo : Bool) (T : Nat) (ev tb wk fa : Value) (kd at_ : Int) : Array Value :=
  #[.int .i64 cl, .int .i64 pr, .bool clo, .pointer (some ⟨T, 0, none⟩), ev, .slice none 0 0, tb, .pointer none, wk, fa, .nilIface, .int .i64 0, .int .i64 0, .int .i64 kd, .int .i64 at_, .nilIface]
/-- A text's units. -/
def keyS (s : ByteArray) : K3 := (7, 0, ⟨(Tx.ofB s).toArray⟩)
set_option maxHeartbeats 1000000 in
theorem hindexF (b T : Nat) (cl pr : Int) (clo : Bool) (ev tb wk fa : Value) (kd at_ : Int) (k : K3) (w : World) (h : Blk w b 36 (objF cl pr clo T ev tb wk fa kd at_)) (hk : k.2.2.size ≤ 4000) :
    Calls Tryd.prog 40 #[.pointer (some ⟨b, 0, none⟩), VK k] w fun e w' => e = .returned (.int .i64 (idxV cl k)) ∧ Below w.heap.size w w' := by
  obtain ⟨k1, k2, k3⟩ := k
  dsimp only at hk
  have bb : Below w.heap.size w (w.alloc (.cells #[.int .i64 k1, .int .i64 k2, .string k3] 26)) := (Below.refl _ _).alloc (Nat.le_refl _) _
  have h2 := h.below bb h.lt
  have c0 : (w.alloc (.cells #[.int .i64 k1, .int .i64 k2, .string k3] 26)).cell? ⟨b, 0, none⟩ = some (.int .i64 cl) := by rw [h2.cell]; rfl
  have lb := h2.lt
  unfold idxV
  dsimp only
  by_cases h1 : cl = 1
  · subst h1
    by_cases h7 : k1 = 7
    · subst h7
      rw [if_pos ⟨rfl, rfl⟩]
      go_enter Tryd.func40, Tryd.ntmps40
      go_wp2_with (fail)
      refine (Tx.index_any k3 _ (by omega)).mono ?_
      rintro e w2 ⟨rfl, q, rfl⟩
      go_wp2
      go_ret
      exact ⟨rfl, below_drw bb q⟩
    · have t2 : (k1 == 7) = false := by simpa using h7
      rw [if_neg (fun h => h7 h.2)]
      go_enter Tryd.func40, Tryd.ntmps40
      go_wp2
      go_ret
      exact ⟨rfl, bb⟩
  · have t1 : (cl == 1) = false := by simpa using h1
    rw [if_neg (fun h => h1 h.1)]
    go_enter Tryd.func40, Tryd.ntmps40
    go_wp2
    go_ret
    exact ⟨rfl, bb⟩
set_option maxHeartbeats 2000000 in
theorem ownF (b T : Nat) (cl pr : Int) (clo : Bool) (ev tb wk fa : Value) (kd at_ : Int) (A : List Ent) (D : List (Nat × Nat)) (O : Nat → Prop) (k : K3) (w : World) (h : Blk w b 36 (objF cl pr clo T ev tb wk fa kd at_)) (hT : TabA w T A D O) (hk : k.2.2.size ≤ 4000) (hcl : cl ≠ 1) :
    Calls Tryd.prog 39 #[.pointer (some ⟨b, 0, none⟩), VK k] w (GetP A k w) := by
  have t1 : (cl == 1) = false := by simpa using hcl
  have H := Lib.hid h
  have HT := Lib.hid hT
  obtain ⟨k1, k2, k3⟩ := k
  dsimp only at hk
  clear h hT
  have bb : Below w.heap.size w ((w.alloc (.cells #[.int .i64 k1, .int .i64 k2, .string k3] 26)).alloc (.cells #[.int .i64 0, .int .i64 0, .string ⟨#[]⟩] 26)) := ((Below.refl _ _).alloc (Nat.le_refl _) _).alloc (by simp) _
  have h2 := H.out.below bb H.out.lt
  have kb : Blk ((w.alloc (.cells #[.int .i64 k1, .int .i64 k2, .string k3] 26)).alloc (.cells #[.int .i64 0, .int .i64 0, .string ⟨#[]⟩] 26)) w.heap.size 26 #[.int .i64 k1, .int .i64 k2, .string k3] := (Blk.new w _ _).alloc _
  have rb : Blk ((w.alloc (.cells #[.int .i64 k1, .int .i64 k2, .string k3] 26)).alloc (.cells #[.int .i64 0, .int .i64 0, .string ⟨#[]⟩] 26)) (w.heap.size + 1) 26 #[.int .i64 0, .int .i64 0, .string ⟨#[]⟩] := by
    have := Blk.new (w.alloc (.cells #[.int .i64 k1, .int .i64 k2, .string k3] 26)) 26 #[.int .i64 0, .int .i64 0, .string ⟨#[]⟩]
    rwa [World.size_alloc] at this
  have hi := hindexF b T cl pr clo ev tb wk fa kd at_ (k1, k2, k3) _ h2 hk
  have hv : idxV cl (k1, k2, k3) = -1 := if_neg (fun h => hcl h.1)
  rw [hv] at hi
  have HI := Lib.hid hi
  have HB := Lib.hid (And.intro bb (And.intro kb rb))
  clear hi hv bb h2 kb rb
  go_enter Tryd.func39, Tryd.ntmps39
  go_wp2_with (fail)
  refine HI.out.mono ?_
  rintro e w2 ⟨rfl, b2⟩
  obtain ⟨bb, kb, rb⟩ := HB.out
  have b02 := bb.trans (b2.mono bb.size)
  have o2 := H.out.below b02 H.out.lt
  have kb2 := kb.below b2 kb.lt
  have rb2 := rb.below b2 rb.lt
  have o0 : w2.cell? ⟨b, 0, none⟩ = some (.int .i64 cl) := by rw [o2.cell]; rfl
  have o3 : w2.cell? ⟨b, 3, none⟩ = some (.pointer (some ⟨T, 0, none⟩)) := by rw [o2.cell]; rfl
  have q0 : w2.cell? ⟨w.heap.size, 0, none⟩ = some (.int .i64 k1) := by rw [kb2.cell]; rfl
  have q1 : w2.cell? ⟨w.heap.size, 1, none⟩ = some (.int .i64 k2) := by rw [kb2.cell]; rfl
  have q2 : w2.cell? ⟨w.heap.size, 2, none⟩ = some (.string k3) := by rw [kb2.cell]; rfl
  have lo := o2.lt
  have HG := Lib.hid (fun q : Nat => Go.Proofs.YtdeboajjhpecbaaDoor.get_any T A D O (k1, k2, k3) (w2.drewN q) ((HT.out.below b02).upd ((Upd.refl w2 (fun _ => False)).drewN q) (fun _ _ h => h)) hk)
  have HB2 := Lib.hid (And.intro b02 rb2)
  clear o2 kb2 rb2 bb kb rb b2 b02 HI HB
  go_wp2_with (fail)
  refine wp_var0 (fun KV HKV => ?_)
  refine wp_region_till (m := 5) (S := (fun W => W.cell? ⟨b, 3, none⟩ = some (.pointer (some ⟨T, 0, none⟩)) ∧ W.cell? ⟨w.heap.size, 0, none⟩ = some (.int .i64 k1) ∧ W.cell? ⟨w.heap.size, 1, none⟩ = some (.int .i64 k2) ∧ W.cell? ⟨w.heap.size, 2, none⟩ = some (.string k3))) (by kernel_rfl) ?_
  have HG1 := HG.out 1
  have HB3 : Below w.heap.size w (w2.drewN 1) ∧ Blk (w2.drewN 1) (w.heap.size + 1) 26 #[.int .i64 0, .int .i64 0, .string ⟨#[]⟩] := ⟨below_drw HB2.out.1 1, HB2.out.2.drewN 1⟩
  have e3 : w2.drew = w2.drewN 1 := rfl
  rw [e3]
  have S0 : (w2.drewN 1).cell? ⟨b, 3, none⟩ = some (.pointer (some ⟨T, 0, none⟩)) ∧ (w2.drewN 1).cell? ⟨w.heap.size, 0, none⟩ = some (.int .i64 k1) ∧ (w2.drewN 1).cell? ⟨w.heap.size, 1, none⟩ = some (.int .i64 k2) ∧ (w2.drewN 1).cell? ⟨w.heap.size, 2, none⟩ = some (.string k3) := ⟨o3, q0, q1, q2⟩
  have H3 := Lib.hid HB3
  have HG3 := Lib.hid HG1
  clear o0 o3 q0 q1 q2 lo HG HB2 e3 HB3 HG1
  generalize w2.drewN 1 = D at *
  change tillH _ _ _ _ _ _ 12 #[false, false, false, false, false, false, false, false, false, false, false, false] _ _
  refine tillH_takeAny (i := 0) (oi := ?oo1) (v := ?vv1) ?hi1 (by kernel_rfl) (by kernel_rfl) (by kernel_rfl) ?hq1 (by kernel_rfl) ?hy1 (fun _ => S0) ?hh1
  case hi1 => (simp only [List.getElem?_toArray, List.getElem?_cons_succ, List.getElem?_cons_zero]; rfl)
  case hq1 => exact fun _ _ _ h => h
  case hy1 => exact Or.inl ⟨by rfl, by (intro W; go_simp; (try with_reducible rfl))⟩
  (try simp only [Act.put, List.setIfInBounds_toArray, List.set_cons_zero, List.set_cons_succ])
  refine tillH_takeAny (i := 1) (oi := ?oo2) (v := ?vv2) ?hi2 (by kernel_rfl) (by kernel_rfl) (by kernel_rfl) ?hq2 (by kernel_rfl) ?hy2 (fun _ => S0) ?hh2
  case hi2 => (simp only [List.getElem?_toArray, List.getElem?_cons_succ, List.getElem?_cons_zero]; rfl)
  case hq2 => exact fun _ _ _ h => h
  case hy2 => exact Or.inl ⟨by rfl, by (intro W; go_simp; (try with_reducible rfl))⟩
  (try simp only [Act.put, List.setIfInBounds_toArray, List.set_cons_zero, List.set_cons_succ])
  refine tillH_takeAny (i := 2) (oi := ?oo3) (v := ?vv3) ?hi3 (by kernel_rfl) (by kernel_rfl) (by kernel_rfl) ?hq3 (by kernel_rfl) ?hy3 (fun _ => S0) ?hh3
  case hi3 => (simp only [List.getElem?_toArray, List.getElem?_cons_succ, List.getElem?_cons_zero]; rfl)
  case hq3 => exact fun _ _ _ h => h
  case hy3 => exact Or.inl ⟨by rfl, by (intro W; go_simp; (try with_reducible rfl))⟩
  (try simp only [Act.put, List.setIfInBounds_toArray, List.set_cons_zero, List.set_cons_succ])
  refine tillH_take (i := 3) (oi := ?oo4) (v := ?vv4) ?hi4 (by kernel_rfl) (by kernel_rfl) (by kernel_rfl) ?hq4 (by kernel_rfl) (by kernel_rfl) (by kernel_rfl) ?hy4 S0 ?hh4
  case hi4 => (simp only [List.getElem?_toArray, List.getElem?_cons_succ, List.getElem?_cons_zero]; rfl)
  case hq4 => exact fun _ _ _ h => h
  case hy4 => exact Or.inl ⟨by rfl, by (intro W hSw; (try obtain ⟨s0, s1, s2, s3⟩ := hSw); go_simp; (try with_reducible rfl))⟩
  (try simp only [Act.put, List.setIfInBounds_toArray, List.set_cons_zero, List.set_cons_succ])
  refine tillH_take (i := 4) (oi := ?oo5) (v := ?vv5) ?hi5 (by kernel_rfl) (by kernel_rfl) (by kernel_rfl) ?hq5 (by kernel_rfl) (by kernel_rfl) (by kernel_rfl) ?hy5 S0 ?hh5
  case hi5 => (simp only [List.getElem?_toArray, List.getElem?_cons_succ, List.getElem?_cons_zero]; rfl)
  case hq5 => exact fun _ _ _ h => h
  case hy5 => exact Or.inl ⟨by rfl, by (intro W hSw; (try obtain ⟨s0, s1, s2, s3⟩ := hSw); go_simp; (try with_reducible rfl))⟩
  (try simp only [Act.put, List.setIfInBounds_toArray, List.set_cons_zero, List.set_cons_succ])
  refine tillH_next (rs := [5]) (by kernel_rfl) (by simp) ?_
  refine NextH.cons rfl (fun K hK => ?_) NextH.nil
  go_simp
  refine HG3.out.mono ?_
  rintro e w5 ⟨b5, hor⟩
  have rb5 := H3.out.2.below b5 H3.out.2.lt
  have bel5 := H3.out.1.trans (b5.mono H3.out.1.size)
  have z0 := rb5.frozen 0
  have z1 := rb5.frozen 1
  have z2 := rb5.frozen 2
  have y0 : w5.cell? ⟨w.heap.size + 1, 0, none⟩ = some (.int .i64 0) := by rw [rb5.cell]; rfl
  have y1 : w5.cell? ⟨w.heap.size + 1, 1, none⟩ = some (.int .i64 0) := by rw [rb5.cell]; rfl
  have y2 : w5.cell? ⟨w.heap.size + 1, 2, none⟩ = some (.string ⟨#[]⟩) := by rw [rb5.cell]; rfl
  have lr := rb5.lt
  have HR5 := Lib.hid (And.intro rb5 bel5)
  clear rb5 bel5 S0
  have HGP : Hid (∃ gv gf gb, e = .returned (.tuple #[VK gv, .int .i64 gf, .bool gb]) ∧ ((∃ x ∈ A, isKey (k1, k2, k3) x = true ∧ gv = x.val ∧ gf = x.flags ∧ gb = true) ∨ ((∀ x ∈ A, isKey (k1, k2, k3) x = false) ∧ gv = (0, 0, ⟨#[]⟩) ∧ gf = 0 ∧ gb = false))) := Lib.hid (by rcases hor with ⟨x, hx, hk, rfl⟩ | ⟨hn, rfl⟩; exact ⟨x.val, x.flags, true, rfl, .inl ⟨x, hx, hk, rfl, rfl, rfl⟩⟩; exact ⟨(0, 0, ⟨#[]⟩), 0, false, rfl, .inr ⟨hn, rfl, rfl, rfl⟩⟩)
  clear hor
  obtain ⟨gv, gf, gb, rfl, hgp⟩ := HGP.out
  obtain ⟨v1, v2, v3⟩ := gv
  have HP := Lib.hid hgp
  clear hgp HGP
  refine hK.out _ _ (fun h => absurd h (by simp)) ?_
  clear hK K
  (try simp only [Act.put, List.setIfInBounds_toArray, List.set_cons_zero, List.set_cons_succ])
  refine tillH_takeAny (i := 6) (oi := ?oo6) (v := ?vv6) ?hi6 (by kernel_rfl) (by kernel_rfl) (by kernel_rfl) ?hq6 (by kernel_rfl) ?hy6 (fun h => absurd h (by simp)) ?hh6
  case hi6 => (simp only [List.getElem?_toArray, List.getElem?_cons_succ, List.getElem?_cons_zero]; rfl)
  case hq6 => exact fun _ _ _ h => h
  case hy6 => exact Or.inl ⟨by rfl, by (intro W; go_simp; (try with_reducible rfl))⟩
  (try simp only [Act.put, List.setIfInBounds_toArray, List.set_cons_zero, List.set_cons_succ])
  refine tillH_takeAny (i := 7) (oi := ?oo7) (v := ?vv7) ?hi7 (by kernel_rfl) (by kernel_rfl) (by kernel_rfl) ?hq7 (by kernel_rfl) ?hy7 (fun h => absurd h (by simp)) ?hh7
  case hi7 => (simp only [List.getElem?_toArray, List.getElem?_cons_succ, List.getElem?_cons_zero]; rfl)
  case hq7 => exact fun _ _ _ h => h
  case hy7 => exact Or.inl ⟨by rfl, by (intro W; go_simp; (try with_reducible rfl))⟩
  (try simp only [Act.put, List.setIfInBounds_toArray, List.set_cons_zero, List.set_cons_succ])
  refine tillH_takeAny (i := 8) (oi := ?oo8) (v := ?vv8) ?hi8 (by kernel_rfl) (by kernel_rfl) (by kernel_rfl) ?hq8 (by kernel_rfl) ?hy8 (fun h => absurd h (by simp)) ?hh8
  case hi8 => (simp only [List.getElem?_toArray, List.getElem?_cons_succ, List.getElem?_cons_zero]; rfl)
  case hq8 => exact fun _ _ _ h => h
  case hy8 => exact Or.inl ⟨by rfl, by (intro W; go_simp; (try with_reducible rfl))⟩
  (try simp only [Act.put, List.setIfInBounds_toArray, List.set_cons_zero, List.set_cons_succ])
  refine tillH_next (rs := [9]) (by kernel_rfl) (by simp) ?_
  refine NextH.cons rfl (fun K hK => ?_) NextH.nil
  go_simp
  refine hK.out _ _ (fun h => absurd h (by simp)) ?_
  clear hK K
  (try simp only [Act.put, List.setIfInBounds_toArray, List.set_cons_zero, List.set_cons_succ])
  refine tillH_takeAny (i := 10) (oi := ?oo9) (v := ?vv9) ?hi9 (by kernel_rfl) (by kernel_rfl) (by kernel_rfl) ?hq9 (by kernel_rfl) ?hy9 (fun h => absurd h (by simp)) ?hh9
  case hi9 => (simp only [List.getElem?_toArray, List.getElem?_cons_succ, List.getElem?_cons_zero]; rfl)
  case hq9 => exact fun _ _ _ h => h
  case hy9 => exact Or.inl ⟨by rfl, by (intro W; go_simp; (try with_reducible rfl))⟩
  (try simp only [Act.put, List.setIfInBounds_toArray, List.set_cons_zero, List.set_cons_succ])
  refine tillH_takeAny (i := 11) (oi := ?oo10) (v := ?vv10) ?hi10 (by kernel_rfl) (by kernel_rfl) (by kernel_rfl) ?hq10 (by kernel_rfl) ?hy10 (fun h => absurd h (by simp)) ?hh10
  case hi10 => (simp only [List.getElem?_toArray, List.getElem?_cons_succ, List.getElem?_cons_zero]; rfl)
  case hq10 => exact fun _ _ _ h => h
  case hy10 => exact Or.inl ⟨by rfl, by (intro W; go_simp; (try with_reducible rfl))⟩
  (try simp only [Act.put, List.setIfInBounds_toArray, List.set_cons_zero, List.set_cons_succ])
  refine tillH_done (by kernel_rfl) ?_ _
  refine HKV.out _ _ ?_
  go_wp2_with (fail)
  refine bodyPost_ret (v := .tuple #[VS v1 v2 v3, .int .i64 gf, .bool gb]) (by simp [results, Tryd.results39, go_sem, y0, y1, y2, z0, z1, z2, lr]) rfl ⟨?_, ?_⟩
  · exact ((HR5.out.2.setCell (p := ⟨w.heap.size + 1, 0, none⟩) (by simp) _).setCell (p := ⟨w.heap.size + 1, 1, none⟩) (by simp) _).setCell (p := ⟨w.heap.size + 1, 2, none⟩) (by simp) _
  · rcases HP.out with ⟨x, hx, hkx, h1, rfl, rfl⟩ | ⟨hn, h1, rfl, rfl⟩
    · exact .inl ⟨x, hx, hkx, by rw [← h1]⟩
    · obtain ⟨rfl, rfl, rfl⟩ : v1 = 0 ∧ v2 = 0 ∧ v3 = ⟨#[]⟩ := by simpa using h1
      exact .inr ⟨hn, rfl⟩
theorem ofB_len (l : List UInt8) (h : l.all (fun c => decide (c.toNat < 128)) = true) : (Tx.ofB ⟨l.toArray⟩).length = 2 * l.length := by
  rw [Tx.ofB_ascii l (by simpa using h), Tx.unitsB_length, List.length_map]
theorem keyS_size (l : List UInt8) (h : l.all (fun c => decide (c.toNat < 128)) = true) (hl : l.length ≤ 1000) : (keyS ⟨l.toArray⟩).2.2.size ≤ 4000 := by
  show (Tx.ofB ⟨l.toArray⟩).toArray.size ≤ _
  rw [List.size_toArray, ofB_len l h]; omega
theorem lenK_size : (keyS ⟨#[108, 101, 110, 103, 116, 104]⟩).2.2.size ≤ 4000 := keyS_size [108, 101, 110, 103, 116, 104] (by decide) (by decide)
theorem nameK_size : (keyS ⟨#[110, 97, 109, 101]⟩).2.2.size ≤ 4000 := keyS_size [110, 97, 109, 101] (by decide) (by decide)
theorem msgK_size : (keyS ⟨#[109, 101, 115, 115, 97, 103, 101]⟩).2.2.size ≤ 4000 := keyS_size [109, 101, 115, 115, 97, 103, 101] (by decide) (by decide)
theorem lenPut_length (k v : K3) (f : Int) : (putA k v f []).length = 1 := rfl
/-- What a Put of an object's properties comes to. -/
def PutE (T : Nat) (k v : K3) (f : Int) (A : List Ent) (D : List (Nat × Nat)) (O : Nat → Prop) (w : World) (e : Ending) (w' : World) : Prop :=
  e = .returned (.tuple #[]) ∧ (∃ O', TabA w' T (putA k v f A) D O' ∧ ∀ x, O' x → O x ∨ w.heap.size ≤ x) ∧ Upd w w' O
/-- A call of Put behind what leaves all as it was. -/
theorem put_later {T : Nat} {A : List Ent} {D : List (Nat × Nat)} {O : Nat → Prop} {w w1 : World} (h : TabA w T A D O) (hb : Below w.heap.size w w1) (k v : K3) (f : Int) (hk : k.2.2.size ≤ 4000) (hA : A.length ≤ 4000) (hD : D.length ≤ 100000) :
    Calls Tryd.prog 27 #[.pointer (some ⟨T, 0, none⟩), VK k, VK v, .int .i64 f] w1 (PutE T k v f A D O w) := by
  refine (put_any T A D O k v f w1 (h.below hb) hk hA hD).mono ?_
  rintro e w' ⟨rfl, h1, h2⟩
  exact ⟨rfl, ⟨_, h1, fun x hx => by
    rcases hx with hx | hx
    · exact Or.inl hx
    · exact Or.inr (Nat.le_trans hb.size hx.1)⟩, (Upd.of_below_all hb).trans h2⟩
set_option maxHeartbeats 4000000 in
theorem vmown_any (mv : Value) (b T : Nat) (name : ByteArray) (v : K3) (f : Int) (A : List Ent) (D : List (Nat × Nat)) (O : Nat → Prop) (w : World) (hc : w.cell? ⟨b, 3, none⟩ = some (.pointer (some ⟨T, 0, none⟩))) (hT : TabA w T A D O) (hk : name.size ≤ 4000) (hk2 : (keyS name).2.2.size ≤ 4000) (hA : A.length ≤ 4000) (hD : D.length ≤ 100000) :
    Calls Tryd.prog 12 #[mv, .pointer (some ⟨b, 0, none⟩), .string name, VK v, .int .i64 f] w (PutE T (keyS name) v f A D O w) := by
  obtain ⟨v1, v2, v3⟩ := v
  have b0 : Below w.heap.size w (w.alloc (.cells #[.int .i64 v1, .int .i64 v2, .string v3] 26)) := (Below.refl _ _).alloc (Nat.le_refl _) _
  have bx := Blk.new w 26 #[.int .i64 v1, .int .i64 v2, .string v3]
  have HV := Lib.hid (fun W => Tx.val_any name W (by omega))
  have HP := Lib.hid (fun W (hW : Below w.heap.size w W) => put_later hT hW (keyS name) (v1, v2, v3) f hk2 hA hD)
  have HS : Hid ((w.alloc (.cells #[.int .i64 v1, .int .i64 v2, .string v3] 26)).cell? ⟨b, 3, none⟩ = some (.pointer (some ⟨T, 0, none⟩)) ∧ (w.alloc (.cells #[.int .i64 v1, .int .i64 v2, .string v3] 26)).cell? ⟨w.heap.size, 0, none⟩ = some (.int .i64 v1) ∧ (w.alloc (.cells #[.int .i64 v1, .int .i64 v2, .string v3] 26)).cell? ⟨w.heap.size, 1, none⟩ = some (.int .i64 v2) ∧ (w.alloc (.cells #[.int .i64 v1, .int .i64 v2, .string v3] 26)).cell? ⟨w.heap.size, 2, none⟩ = some (.string v3)) :=
    Lib.hid ⟨(b0.cell (World.block_lt_of_cell? w _ hc)).trans hc, by rw [bx.cell]; rfl, by rw [bx.cell]; rfl, by rw [bx.cell]; rfl⟩
  have HB := Lib.hid b0
  clear hc hT hk hk2 hA hD b0 bx
  go_enter Tryd.func12, Tryd.ntmps12
  go_wp2_with (fail)
  generalize w.alloc (.cells #[.int .i64 v1, .int .i64 v2, .string v3] 26) = W1 at *
  refine wp_var0 (fun KV HKV => ?_)
  refine wp_region_till (m := 8) (S := (fun W => W.cell? ⟨b, 3, none⟩ = some (.pointer (some ⟨T, 0, none⟩)) ∧ W.cell? ⟨w.heap.size, 0, none⟩ = some (.int .i64 v1) ∧ W.cell? ⟨w.heap.size, 1, none⟩ = some (.int .i64 v2) ∧ W.cell? ⟨w.heap.size, 2, none⟩ = some (.string v3))) (by kernel_rfl) ?_
  have e4 : W1.drew = W1.drewN 1 := rfl
  rw [e4]
  have S0 : (W1.drewN 1).cell? ⟨b, 3, none⟩ = some (.pointer (some ⟨T, 0, none⟩)) ∧ (W1.drewN 1).cell? ⟨w.heap.size, 0, none⟩ = some (.int .i64 v1) ∧ (W1.drewN 1).cell? ⟨w.heap.size, 1, none⟩ = some (.int .i64 v2) ∧ (W1.drewN 1).cell? ⟨w.heap.size, 2, none⟩ = some (.string v3) := HS.out
  have HBD := Lib.hid (below_drw HB.out 1)
  clear e4 HS HB
  generalize W1.drewN 1 = E1 at *
  change tillH _ _ _ _ _ _ 9 #[false, false, false, false, false, false, false, false, false] _ _
  refine tillH_takeAny (i := 0) (oi := ?oo1) (v := ?vv1) ?hi1 (by kernel_rfl) (by kernel_rfl) (by kernel_rfl) ?hq1 (by kernel_rfl) ?hy1 (fun _ => S0) ?hh1
  case hi1 => (simp only [List.getElem?_toArray, List.getElem?_cons_succ, List.getElem?_cons_zero]; rfl)
  case hq1 => exact fun _ _ _ h => h
  case hy1 => exact Or.inl ⟨by rfl, by (intro W; go_simp; (try with_reducible rfl))⟩
  (try simp only [Act.put, List.setIfInBounds_toArray, List.set_cons_zero, List.set_cons_succ])
  refine tillH_takeAny (i := 1) (oi := ?oo2) (v := ?vv2) ?hi2 (by kernel_rfl) (by kernel_rfl) (by kernel_rfl) ?hq2 (by kernel_rfl) ?hy2 (fun _ => S0) ?hh2
  case hi2 => (simp only [List.getElem?_toArray, List.getElem?_cons_succ, List.getElem?_cons_zero]; rfl)
  case hq2 => exact fun _ _ _ h => h
  case hy2 => exact Or.inl ⟨by rfl, by (intro W; go_simp; (try with_reducible rfl))⟩
  (try simp only [Act.put, List.setIfInBounds_toArray, List.set_cons_zero, List.set_cons_succ])
  refine tillH_takeAny (i := 2) (oi := ?oo3) (v := ?vv3) ?hi3 (by kernel_rfl) (by kernel_rfl) (by kernel_rfl) ?hq3 (by kernel_rfl) ?hy3 (fun _ => S0) ?hh3
  case hi3 => (simp only [List.getElem?_toArray, List.getElem?_cons_succ, List.getElem?_cons_zero]; rfl)
  case hq3 => exact fun _ _ _ h => h
  case hy3 => exact Or.inl ⟨by rfl, by (intro W; go_simp; (try with_reducible rfl))⟩
  (try simp only [Act.put, List.setIfInBounds_toArray, List.set_cons_zero, List.set_cons_succ])
  refine tillH_take (i := 3) (oi := ?oo4) (v := ?vv4) ?hi4 (by kernel_rfl) (by kernel_rfl) (by kernel_rfl) ?hq4 (by kernel_rfl) (by kernel_rfl) (by kernel_rfl) ?hy4 S0 ?hh4
  case hi4 => (simp only [List.getElem?_toArray, List.getElem?_cons_succ, List.getElem?_cons_zero]; rfl)
  case hq4 => exact fun _ _ _ h => h
  case hy4 => exact Or.inl ⟨by rfl, by (intro W hSw; (try obtain ⟨s0, s1, s2, s3⟩ := hSw); go_simp; (try with_reducible rfl))⟩
  (try simp only [Act.put, List.setIfInBounds_toArray, List.set_cons_zero, List.set_cons_succ])
  refine tillH_takeAny (i := 4) (oi := ?oo5) (v := ?vv5) ?hi5 (by kernel_rfl) (by kernel_rfl) (by kernel_rfl) ?hq5 (by kernel_rfl) ?hy5 (fun _ => S0) ?hh5
  case hi5 => (simp only [List.getElem?_toArray, List.getElem?_cons_succ, List.getElem?_cons_zero]; rfl)
  case hq5 => exact fun _ _ _ h => h
  case hy5 => exact Or.inl ⟨by rfl, by (intro W; go_simp; (try with_reducible rfl))⟩
  (try simp only [Act.put, List.setIfInBounds_toArray, List.set_cons_zero, List.set_cons_succ])
  refine tillH_take (i := 6) (oi := ?oo6) (v := ?vv6) ?hi6 (by kernel_rfl) (by kernel_rfl) (by kernel_rfl) ?hq6 (by kernel_rfl) (by kernel_rfl) (by kernel_rfl) ?hy6 S0 ?hh6
  case hi6 => (simp only [List.getElem?_toArray, List.getElem?_cons_succ, List.getElem?_cons_zero]; rfl)
  case hq6 => exact fun _ _ _ h => h
  case hy6 => exact Or.inl ⟨by rfl, by (intro W hSw; (try obtain ⟨s0, s1, s2, s3⟩ := hSw); go_simp; (try with_reducible rfl))⟩
  (try simp only [Act.put, List.setIfInBounds_toArray, List.set_cons_zero, List.set_cons_succ])
  refine tillH_takeAny (i := 7) (oi := ?oo7) (v := ?vv7) ?hi7 (by kernel_rfl) (by kernel_rfl) (by kernel_rfl) ?hq7 (by kernel_rfl) ?hy7 (fun _ => S0) ?hh7
  case hi7 => (simp only [List.getElem?_toArray, List.getElem?_cons_succ, List.getElem?_cons_zero]; rfl)
  case hq7 => exact fun _ _ _ h => h
  case hy7 => exact Or.inl ⟨by rfl, by (intro W; go_simp; (try with_reducible rfl))⟩
  (try simp only [Act.put, List.setIfInBounds_toArray, List.set_cons_zero, List.set_cons_succ])
  refine tillH_next (rs := [5]) (by kernel_rfl) (by simp) ?_
  refine NextH.cons rfl (fun K hK => ?_) NextH.nil
  go_simp
  refine (HV.out E1).mono ?_
  rintro e E2 ⟨rfl, b6⟩
  have S1 : E2.cell? ⟨b, 3, none⟩ = some (.pointer (some ⟨T, 0, none⟩)) ∧ E2.cell? ⟨w.heap.size, 0, none⟩ = some (.int .i64 v1) ∧ E2.cell? ⟨w.heap.size, 1, none⟩ = some (.int .i64 v2) ∧ E2.cell? ⟨w.heap.size, 2, none⟩ = some (.string v3) := ⟨(b6.cell (World.block_lt_of_cell? _ _ S0.1)).trans S0.1, (b6.cell (World.block_lt_of_cell? _ _ S0.2.1)).trans S0.2.1, (b6.cell (World.block_lt_of_cell? _ _ S0.2.2.1)).trans S0.2.2.1, (b6.cell (World.block_lt_of_cell? _ _ S0.2.2.2)).trans S0.2.2.2⟩
  have HB2 := Lib.hid (HBD.out.trans (b6.mono HBD.out.size))
  clear b6 HBD S0
  refine hK.out _ _ (fun _ => S1) ?_
  clear hK K
  (try simp only [Act.put, List.setIfInBounds_toArray, List.set_cons_zero, List.set_cons_succ])
  refine tillH_next (rs := [8]) (by kernel_rfl) (by simp) ?_
  refine NextH.cons rfl (fun K hK => ?_) NextH.nil
  go_simp
  refine (HP.out E2 HB2.out).mono ?_
  rintro e E3 ⟨rfl, hp1, hp2⟩
  have HQ := Lib.hid (And.intro hp1 hp2)
  clear hp1 hp2 S1
  refine hK.out _ _ (fun h => absurd h (by simp)) ?_
  clear hK K
  (try simp only [Act.put, List.setIfInBounds_toArray, List.set_cons_zero, List.set_cons_succ])
  refine tillH_done (by kernel_rfl) ?_ _
  refine HKV.out _ _ ?_
  go_end0
  exact ⟨rfl, HQ.out.1, HQ.out.2⟩
set_option maxHeartbeats 4000000 in
theorem describe_any (mv : Value) (b T : Nat) (name : ByteArray) (n : Int) (D : List (Nat × Nat)) (O : Nat → Prop) (w : World) (hc : w.cell? ⟨b, 3, none⟩ = some (.pointer (some ⟨T, 0, none⟩))) (hT : TabA w T [] D O) (hbO : ¬ O b) (hk : name.size ≤ 1000) (hD : D.length ≤ 100000) :
    Calls Tryd.prog 37 #[mv, .pointer (some ⟨b, 0, none⟩), .string name, .int .i64 n] w fun e w' => e = .returned (.tuple #[]) ∧ (∃ O', TabA w' T (putA (keyS ⟨#[110, 97, 109, 101]⟩) (keyS name) 4 (putA (keyS ⟨#[108, 101, 110, 103, 116, 104]⟩) (3, n, ⟨#[]⟩) 4 [])) D O' ∧ ∀ x, O' x → O x ∨ w.heap.size ≤ x) ∧ Upd w w' O := by
  have HV := Lib.hid (fun (s : ByteArray) (hs : s.size ≤ 1000) W => Tx.val_any s W (by omega))
  have HN := Lib.hid hk
  have HP := Lib.hid (fun W (hW : Below w.heap.size w W) => put_later hT hW (keyS ⟨#[108, 101, 110, 103, 116, 104]⟩) (3, n, ⟨#[]⟩) 4 lenK_size (by simp) hD)
  have HS := Lib.hid hc
  have HO := Lib.hid (And.intro hbO hD)
  clear hc hT hk hbO hD
  go_enter Tryd.func37, Tryd.ntmps37
  go_upto_region 0 with fail
  refine wp_var0 (fun KV HKV => ?_)
  refine wp_region_till (m := 7) (S := (fun W => W.cell? ⟨b, 3, none⟩ = some (.pointer (some ⟨T, 0, none⟩)))) (by kernel_rfl) ?_
  have e4 : w.drew = w.drewN 1 := rfl
  rw [e4]
  have S0 : (w.drewN 1).cell? ⟨b, 3, none⟩ = some (.pointer (some ⟨T, 0, none⟩)) := HS.out
  have HBD := Lib.hid (below_drw (Below.refl w.heap.size w) 1)
  clear e4
  generalize w.drewN 1 = E1 at *
  change tillH _ _ _ _ _ _ 8 #[false, false, false, false, false, false, false, false] _ _
  refine tillH_takeAny (i := 0) (oi := ?oo8) (v := ?vv8) ?hi8 (by kernel_rfl) (by kernel_rfl) (by kernel_rfl) ?hq8 (by kernel_rfl) ?hy8 (fun _ => S0) ?hh8
  case hi8 => (simp only [List.getElem?_toArray, List.getElem?_cons_succ, List.getElem?_cons_zero]; rfl)
  case hq8 => exact fun _ _ _ h => h
  case hy8 => exact Or.inl ⟨by rfl, by (intro W; go_simp; (try with_reducible rfl))⟩
  (try simp only [Act.put, List.setIfInBounds_toArray, List.set_cons_zero, List.set_cons_succ])
  refine tillH_takeAny (i := 1) (oi := ?oo9) (v := ?vv9) ?hi9 (by kernel_rfl) (by kernel_rfl) (by kernel_rfl) ?hq9 (by kernel_rfl) ?hy9 (fun _ => S0) ?hh9
  case hi9 => (simp only [List.getElem?_toArray, List.getElem?_cons_succ, List.getElem?_cons_zero]; rfl)
  case hq9 => exact fun _ _ _ h => h
  case hy9 => exact Or.inl ⟨by rfl, by (intro W; go_simp; (try with_reducible rfl))⟩
  (try simp only [Act.put, List.setIfInBounds_toArray, List.set_cons_zero, List.set_cons_succ])
  refine tillH_takeAny (i := 2) (oi := ?oo10) (v := ?vv10) ?hi10 (by kernel_rfl) (by kernel_rfl) (by kernel_rfl) ?hq10 (by kernel_rfl) ?hy10 (fun _ => S0) ?hh10
  case hi10 => (simp only [List.getElem?_toArray, List.getElem?_cons_succ, List.getElem?_cons_zero]; rfl)
  case hq10 => exact fun _ _ _ h => h
  case hy10 => exact Or.inl ⟨by rfl, by (intro W; go_simp; (try with_reducible rfl))⟩
  (try simp only [Act.put, List.setIfInBounds_toArray, List.set_cons_zero, List.set_cons_succ])
  refine tillH_take (i := 3) (oi := ?oo11) (v := ?vv11) ?hi11 (by kernel_rfl) (by kernel_rfl) (by kernel_rfl) ?hq11 (by kernel_rfl) (by kernel_rfl) (by kernel_rfl) ?hy11 S0 ?hh11
  case hi11 => (simp only [List.getElem?_toArray, List.getElem?_cons_succ, List.getElem?_cons_zero]; rfl)
  case hq11 => exact fun _ _ _ h => h
  case hy11 => exact Or.inl ⟨by rfl, by (intro W hSw; (try obtain s0 := hSw); go_simp; (try with_reducible rfl))⟩
  (try simp only [Act.put, List.setIfInBounds_toArray, List.set_cons_zero, List.set_cons_succ])
  refine tillH_takeAny (i := 5) (oi := ?oo12) (v := ?vv12) ?hi12 (by kernel_rfl) (by kernel_rfl) (by kernel_rfl) ?hq12 (by kernel_rfl) ?hy12 (fun _ => S0) ?hh12
  case hi12 => (simp only [List.getElem?_toArray, List.getElem?_cons_succ, List.getElem?_cons_zero]; rfl)
  case hq12 => exact fun _ _ _ h => h
  case hy12 => exact Or.inl ⟨by rfl, by (intro W; go_simp; (try with_reducible rfl))⟩
  (try simp only [Act.put, List.setIfInBounds_toArray, List.set_cons_zero, List.set_cons_succ])
  refine tillH_takeAny (i := 6) (oi := ?oo13) (v := ?vv13) ?hi13 (by kernel_rfl) (by kernel_rfl) (by kernel_rfl) ?hq13 (by kernel_rfl) ?hy13 (fun _ => S0) ?hh13
  case hi13 => (simp only [List.getElem?_toArray, List.getElem?_cons_succ, List.getElem?_cons_zero]; rfl)
  case hq13 => exact fun _ _ _ h => h
  case hy13 => exact Or.inl ⟨by rfl, by (intro W; go_simp; (try with_reducible rfl))⟩
  (try simp only [Act.put, List.setIfInBounds_toArray, List.set_cons_zero, List.set_cons_succ])
  refine tillH_next (rs := [4]) (by kernel_rfl) (by simp) ?_
  refine NextH.cons rfl (fun K hK => ?_) NextH.nil
  go_simp
  refine (HV.out _ (by decide) E1).mono ?_
  rintro e E2 ⟨rfl, b6⟩
  have S1 : E2.cell? ⟨b, 3, none⟩ = some (.pointer (some ⟨T, 0, none⟩)) := (b6.cell (World.block_lt_of_cell? _ _ S0)).trans S0
  have HB2 := Lib.hid (HBD.out.trans (b6.mono HBD.out.size))
  clear b6 HBD S0
  refine hK.out _ _ (fun _ => S1) ?_
  clear hK K
  (try simp only [Act.put, List.setIfInBounds_toArray, List.set_cons_zero, List.set_cons_succ])
  refine tillH_next (rs := [7]) (by kernel_rfl) (by simp) ?_
  refine NextH.cons rfl (fun K hK => ?_) NextH.nil
  go_simp
  refine (HP.out E2 HB2.out).mono ?_
  rintro e E3 ⟨rfl, ⟨O2, hp1, hp3⟩, hp2⟩
  have hbl : b < w.heap.size := World.block_lt_of_cell? w _ HS.out
  have hc3 : E3.cell? ⟨b, 3, none⟩ = some (.pointer (some ⟨T, 0, none⟩)) := hp2.cell HS.out HO.out.1
  have HQ := Lib.hid (And.intro hp1 (And.intro hp3 (And.intro hp2 hc3)))
  clear hp1 hp2 hp3 S1 hc3 hbl HB2 HP
  refine hK.out _ _ (fun h => absurd h (by simp)) ?_
  clear hK K
  (try simp only [Act.put, List.setIfInBounds_toArray, List.set_cons_zero, List.set_cons_succ])
  refine tillH_done (by kernel_rfl) ?_ _
  refine HKV.out _ _ ?_
  clear HKV
  have HP := Lib.hid (fun W (hW : Below E3.heap.size E3 W) => put_later HQ.out.1 hW (keyS ⟨#[110, 97, 109, 101]⟩) (keyS name) 4 nameK_size (by rw [lenPut_length]; decide) HO.out.2)
  go_upto_region 1 with fail
  refine wp_var0 (fun KV HKV => ?_)
  refine wp_region_till (m := 7) (S := (fun W => W.cell? ⟨b, 3, none⟩ = some (.pointer (some ⟨T, 0, none⟩)))) (by kernel_rfl) ?_
  have e4 : E3.drew = E3.drewN 1 := rfl
  rw [e4]
  have S0 : (E3.drewN 1).cell? ⟨b, 3, none⟩ = some (.pointer (some ⟨T, 0, none⟩)) := HQ.out.2.2.2
  have HBD := Lib.hid (below_drw (Below.refl E3.heap.size E3) 1)
  clear e4
  generalize E3.drewN 1 = E4 at *
  change tillH _ _ _ _ _ _ 8 #[false, false, false, false, false, false, false, false] _ _
  refine tillH_takeAny (i := 0) (oi := ?oo14) (v := ?vv14) ?hi14 (by kernel_rfl) (by kernel_rfl) (by kernel_rfl) ?hq14 (by kernel_rfl) ?hy14 (fun _ => S0) ?hh14
  case hi14 => (simp only [List.getElem?_toArray, List.getElem?_cons_succ, List.getElem?_cons_zero]; rfl)
  case hq14 => exact fun _ _ _ h => h
  case hy14 => exact Or.inl ⟨by rfl, by (intro W; go_simp; (try with_reducible rfl))⟩
  (try simp only [Act.put, List.setIfInBounds_toArray, List.set_cons_zero, List.set_cons_succ])
  refine tillH_takeAny (i := 1) (oi := ?oo15) (v := ?vv15) ?hi15 (by kernel_rfl) (by kernel_rfl) (by kernel_rfl) ?hq15 (by kernel_rfl) ?hy15 (fun _ => S0) ?hh15
  case hi15 => (simp only [List.getElem?_toArray, List.getElem?_cons_succ, List.getElem?_cons_zero]; rfl)
  case hq15 => exact fun _ _ _ h => h
  case hy15 => exact Or.inl ⟨by rfl, by (intro W; go_simp; (try with_reducible rfl))⟩
  (try simp only [Act.put, List.setIfInBounds_toArray, List.set_cons_zero, List.set_cons_succ])
  refine tillH_takeAny (i := 2) (oi := ?oo16) (v := ?vv16) ?hi16 (by kernel_rfl) (by kernel_rfl) (by kernel_rfl) ?hq16 (by kernel_rfl) ?hy16 (fun _ => S0) ?hh16
  case hi16 => (simp only [List.getElem?_toArray, List.getElem?_cons_succ, List.getElem?_cons_zero]; rfl)
  case hq16 => exact fun _ _ _ h => h
  case hy16 => exact Or.inl ⟨by rfl, by (intro W; go_simp; (try with_reducible rfl))⟩
  (try simp only [Act.put, List.setIfInBounds_toArray, List.set_cons_zero, List.set_cons_succ])
  refine tillH_take (i := 3) (oi := ?oo17) (v := ?vv17) ?hi17 (by kernel_rfl) (by kernel_rfl) (by kernel_rfl) ?hq17 (by kernel_rfl) (by kernel_rfl) (by kernel_rfl) ?hy17 S0 ?hh17
  case hi17 => (simp only [List.getElem?_toArray, List.getElem?_cons_succ, List.getElem?_cons_zero]; rfl)
  case hq17 => exact fun _ _ _ h => h
  case hy17 => exact Or.inl ⟨by rfl, by (intro W hSw; (try obtain s0 := hSw); go_simp; (try with_reducible rfl))⟩
  (try simp only [Act.put, List.setIfInBounds_toArray, List.set_cons_zero, List.set_cons_succ])
  refine tillH_takeAny (i := 5) (oi := ?oo18) (v := ?vv18) ?hi18 (by kernel_rfl) (by kernel_rfl) (by kernel_rfl) ?hq18 (by kernel_rfl) ?hy18 (fun _ => S0) ?hh18
  case hi18 => (simp only [List.getElem?_toArray, List.getElem?_cons_succ, List.getElem?_cons_zero]; rfl)
  case hq18 => exact fun _ _ _ h => h
  case hy18 => exact Or.inl ⟨by rfl, by (intro W; go_simp; (try with_reducible rfl))⟩
  (try simp only [Act.put, List.setIfInBounds_toArray, List.set_cons_zero, List.set_cons_succ])
  refine tillH_next (rs := [4]) (by kernel_rfl) (by simp) ?_
  refine NextH.cons rfl (fun K hK => ?_) NextH.nil
  go_simp
  refine (HV.out _ (by decide) E4).mono ?_
  rintro e E5 ⟨rfl, b6⟩
  have S1 : E5.cell? ⟨b, 3, none⟩ = some (.pointer (some ⟨T, 0, none⟩)) := (b6.cell (World.block_lt_of_cell? _ _ S0)).trans S0
  have HBD := Lib.hid (HBD.out.trans (b6.mono HBD.out.size))
  clear b6
  refine hK.out _ _ (fun _ => S1) ?_
  clear hK K
  (try simp only [Act.put, List.setIfInBounds_toArray, List.set_cons_zero, List.set_cons_succ])
  refine tillH_next (rs := [6]) (by kernel_rfl) (by simp) ?_
  refine NextH.cons rfl (fun K hK => ?_) NextH.nil
  go_simp
  refine (HV.out _ HN.out E5).mono ?_
  rintro e E6 ⟨rfl, b6⟩
  have S2 : E6.cell? ⟨b, 3, none⟩ = some (.pointer (some ⟨T, 0, none⟩)) := (b6.cell (World.block_lt_of_cell? _ _ S1)).trans S1
  have HBD := Lib.hid (HBD.out.trans (b6.mono HBD.out.size))
  clear b6
  refine hK.out _ _ (fun _ => S2) ?_
  clear hK K
  (try simp only [Act.put, List.setIfInBounds_toArray, List.set_cons_zero, List.set_cons_succ])
  refine tillH_next (rs := [7]) (by kernel_rfl) (by simp) ?_
  refine NextH.cons rfl (fun K hK => ?_) NextH.nil
  go_simp
  refine (HP.out E6 HBD.out).mono ?_
  rintro e E7 ⟨rfl, ⟨O3, hp1, hp3⟩, hp2⟩
  have HR := Lib.hid (And.intro hp1 (And.intro hp3 hp2))
  clear hp1 hp2 hp3 S0 S1 S2
  refine hK.out _ _ (fun h => absurd h (by simp)) ?_
  clear hK K
  (try simp only [Act.put, List.setIfInBounds_toArray, List.set_cons_zero, List.set_cons_succ])
  refine tillH_done (by kernel_rfl) ?_ _
  refine HKV.out _ _ ?_
  go_end0
  obtain ⟨h1, h2, h3, h4⟩ := HQ.out
  refine ⟨rfl, ⟨O3, HR.out.1, fun x hx => ?_⟩, ?_⟩
  · rcases HR.out.2.1 x hx with h | h
    · exact h2 x h
    · exact Or.inr (Nat.le_trans h3.size h)
  · refine ⟨HR.out.2.2.os.trans h3.os, HR.out.2.2.tape.trans h3.tape, HR.out.2.2.output.trans h3.output, Nat.le_trans h3.size HR.out.2.2.size, fun k hk hn => ?_⟩
    refine (HR.out.2.2.block k (Nat.lt_of_lt_of_le hk h3.size) (fun e => ?_)).trans (h3.block k hk hn)
    rcases h2 k e with h | h
    · exact hn h
    · omega
end Go.Proofs.YtdeboajjhpecbaaDoor.Hp

/- Show: object, of a function and of an error. -/
set_option linter.unusedVariables false
set_option linter.unusedSimpArgs false
namespace Go.Proofs.YtdeboajjhpecbaaDoor.Hp
open Go.RowKit Go.Proofs.YtdeboajjhpecbaaDoor Go.Shelf
def lenK3 : K3 := (7, 0, ⟨#[0, 108, 0, 101, 0, 110, 0, 103, 0, 116, 0, 104]⟩)
def nameK3 : K3 := (7, 0, ⟨#[0, 110, 0, 97, 0, 109, 0, 101]⟩)
def msgK3 : K3 := (7, 0, ⟨#[0, 109, 0, 101, 0, 115, 0, 115, 0, 97, 0, 103, 0, 101]⟩)
theorem keyS_len : keyS ⟨#[108, 101, 110, 103, 116, 104]⟩ = lenK3 := by
  unfold keyS
  rw [show (⟨#[108, 101, 110, 103, 116, 104]⟩ : ByteArray) = ⟨[108, 101, 110, 103, 116, 104].toArray⟩ from rfl, Tx.ofB_ascii _ (by decide)]; rfl
theorem keyS_name : keyS ⟨#[110, 97, 109, 101]⟩ = nameK3 := by
  unfold keyS
  rw [show (⟨#[110, 97, 109, 101]⟩ : ByteArray) = ⟨[110, 97, 109, 101].toArray⟩ from rfl, Tx.ofB_ascii _ (by decide)]; rfl
theorem keyS_msg : keyS ⟨#[109, 101, 115, 115, 97, 103, 101]⟩ = msgK3 := by
  unfold keyS
  rw [show (⟨#[109, 101, 115, 115, 97, 103, 101]⟩ : ByteArray) = ⟨[109, 101, 115, 115, 97, 103, 101].toArray⟩ from rfl, Tx.ofB_ascii _ (by decide)]; rfl
/-- text.Val of "name", of "message". -/
theorem val_name (w : World) : Calls Tryd.prog 20 #[.string ⟨#[110, 97, 109, 101]⟩] w fun e w' => e = .returned (VK nameK3) ∧ Below w.heap.size w w' := by
  rw [← keyS_name]
  exact Tx.val_any _ w (by decide)
theorem val_msg (w : World) : Calls Tryd.prog 20 #[.string ⟨#[109, 101, 115, 115, 97, 103, 101]⟩] w fun e w' => e = .returned (VK msgK3) ∧ Below w.heap.size w w' := by
  rw [← keyS_msg]
  exact Tx.val_any _ w (by decide)
set_option maxRecDepth 100000 in
set_option maxHeartbeats 4000000 in
/-- A function: its own name. -/
theorem object_fn {w : World} {m H b T : Nat} {n0 : Int} {s0 : ByteArray} {pr kd at_ : Int} {clo : Bool} {ev tb wk fa : Value} {deep : Int} (k : K3) (fl : Int) (ok : Bool) (g : List UInt8) (hd : decide (deep < 9) = true) (hg : g.length ≤ 16000)
    (x0 : w.cell? ⟨m, 0, none⟩ = some (.pointer (some ⟨H, 0, none⟩))) (hB : Blk w b 36 (objF 2 pr clo T ev tb wk fa kd at_))
    (hOf : ∀ W, Below w.heap.size w W → Calls Tryd.prog 9 #[.pointer (some ⟨H, 0, none⟩), VS 9 n0 s0] W fun e W' => e = .returned (.pointer (some ⟨b, 0, none⟩)) ∧ Below W.heap.size W W')
    (hOw : ∀ W, Below w.heap.size w W → Calls Tryd.prog 39 #[.pointer (some ⟨b, 0, none⟩), VK nameK3] W fun e W' => e = .returned (.tuple #[VK k, .int .i64 fl, .bool ok]) ∧ Below W.heap.size W W')
    (hSh : ∀ W, Below w.heap.size w W → Calls Tryd.prog 24 #[.pointer (some ⟨m, 0, none⟩), VK k, .int .i64 9] W (ShwP ⟨g.toArray⟩ W)) :
    Calls Tryd.prog 44 #[.pointer (some ⟨m, 0, none⟩), VS 9 n0 s0, .int .i64 deep] w (ShwP ⟨([102, 117, 110, 99, 116, 105, 111, 110, 32] ++ g).toArray⟩ w) := by
  obtain ⟨k1, k2, k3⟩ := k
  have HW := Lib.hid (And.intro hOw hSh)
  clear hOw hSh
  have b0 : Below w.heap.size w (w.alloc (.cells #[.int .i64 9, .int .i64 n0, .string s0] 26)) := (Below.refl _ _).alloc (Nat.le_refl _) _
  have HO := Lib.hid hOf
  have HB := Lib.hid b0
  have HV := Lib.hid hB
  have bx := Blk.new w 26 #[.int .i64 9, .int .i64 n0, .string s0]
  have HS : Hid ((w.alloc (.cells #[.int .i64 9, .int .i64 n0, .string s0] 26)).cell? ⟨m, 0, none⟩ = some (.pointer (some ⟨H, 0, none⟩)) ∧ (w.alloc (.cells #[.int .i64 9, .int .i64 n0, .string s0] 26)).cell? ⟨w.heap.size, 0, none⟩ = some (.int .i64 9) ∧ (w.alloc (.cells #[.int .i64 9, .int .i64 n0, .string s0] 26)).cell? ⟨w.heap.size, 1, none⟩ = some (.int .i64 n0) ∧ (w.alloc (.cells #[.int .i64 9, .int .i64 n0, .string s0] 26)).cell? ⟨w.heap.size, 2, none⟩ = some (.string s0)) := Lib.hid ⟨(b0.cell (World.block_lt_of_cell? w _ x0)).trans x0, by rw [bx.cell]; rfl, by rw [bx.cell]; rfl, by rw [bx.cell]; rfl⟩
  clear hOf b0 hB x0 bx
  go_enter Tryd.func44, Tryd.ntmps44
  go_wp2_with (fail)
  generalize w.alloc (.cells #[.int .i64 9, .int .i64 n0, .string s0] 26) = W1 at *
  refine wp_var0 (fun KV HKV => ?_)
  refine wp_region_till (m := 5) (S := (fun W => W.cell? ⟨m, 0, none⟩ = some (.pointer (some ⟨H, 0, none⟩)) ∧ W.cell? ⟨w.heap.size, 0, none⟩ = some (.int .i64 9) ∧ W.cell? ⟨w.heap.size, 1, none⟩ = some (.int .i64 n0) ∧ W.cell? ⟨w.heap.size, 2, none⟩ = some (.string s0))) (by kernel_rfl) ?_
  have e4 : W1.drew = W1.drewN 1 := rfl
  rw [e4]
  have S0 : (W1.drewN 1).cell? ⟨m, 0, none⟩ = some (.pointer (some ⟨H, 0, none⟩)) ∧ (W1.drewN 1).cell? ⟨w.heap.size, 0, none⟩ = some (.int .i64 9) ∧ (W1.drewN 1).cell? ⟨w.heap.size, 1, none⟩ = some (.int .i64 n0) ∧ (W1.drewN 1).cell? ⟨w.heap.size, 2, none⟩ = some (.string s0) := HS.out
  have HBD := Lib.hid (below_drw HB.out 1)
  clear e4 HS HB
  generalize W1.drewN 1 = E1 at *
  change tillH _ _ _ _ _ _ 7 #[false, false, false, false, false, false, false] _ _
  refine tillH_takeAny (i := 0) (oi := ?oob1) (v := ?vvb1) ?hib1 (by kernel_rfl) (by kernel_rfl) (by kernel_rfl) ?hqb1 (by kernel_rfl) ?hyb1 (fun _ => S0) ?hhb1
  case hib1 => (simp only [List.getElem?_toArray, List.getElem?_cons_succ, List.getElem?_cons_zero]; rfl)
  case hqb1 => exact fun _ _ _ h => h
  case hyb1 => exact Or.inl ⟨by rfl, by (intro W; go_simp; (try with_reducible rfl))⟩
  (try simp only [Act.put, List.setIfInBounds_toArray, List.set_cons_zero, List.set_cons_succ])
  refine tillH_takeAny (i := 1) (oi := ?oob2) (v := ?vvb2) ?hib2 (by kernel_rfl) (by kernel_rfl) (by kernel_rfl) ?hqb2 (by kernel_rfl) ?hyb2 (fun _ => S0) ?hhb2
  case hib2 => (simp only [List.getElem?_toArray, List.getElem?_cons_succ, List.getElem?_cons_zero]; rfl)
  case hqb2 => exact fun _ _ _ h => h
  case hyb2 => exact Or.inl ⟨by rfl, by (intro W; go_simp; (try with_reducible rfl))⟩
  (try simp only [Act.put, List.setIfInBounds_toArray, List.set_cons_zero, List.set_cons_succ])
  refine tillH_takeAny (i := 2) (oi := ?oob3) (v := ?vvb3) ?hib3 (by kernel_rfl) (by kernel_rfl) (by kernel_rfl) ?hqb3 (by kernel_rfl) ?hyb3 (fun _ => S0) ?hhb3
  case hib3 => (simp only [List.getElem?_toArray, List.getElem?_cons_succ, List.getElem?_cons_zero]; rfl)
  case hqb3 => exact fun _ _ _ h => h
  case hyb3 => exact Or.inl ⟨by rfl, by (intro W; go_simp; (try with_reducible rfl))⟩
  (try simp only [Act.put, List.setIfInBounds_toArray, List.set_cons_zero, List.set_cons_succ])
  refine tillH_take (i := 3) (oi := ?oob4) (v := ?vvb4) ?hib4 (by kernel_rfl) (by kernel_rfl) (by kernel_rfl) ?hqb4 (by kernel_rfl) (by kernel_rfl) (by kernel_rfl) ?hyb4 S0 ?hhb4
  case hib4 => (simp only [List.getElem?_toArray, List.getElem?_cons_succ, List.getElem?_cons_zero]; rfl)
  case hqb4 => exact fun _ _ _ h => h
  case hyb4 => exact Or.inl ⟨by rfl, by (intro W hSw; (try obtain ⟨s0, s1, s2, s3⟩ := hSw); go_simp; (try with_reducible rfl))⟩
  (try simp only [Act.put, List.setIfInBounds_toArray, List.set_cons_zero, List.set_cons_succ])
  refine tillH_take (i := 4) (oi := ?oob5) (v := ?vvb5) ?hib5 (by kernel_rfl) (by kernel_rfl) (by kernel_rfl) ?hqb5 (by kernel_rfl) (by kernel_rfl) (by kernel_rfl) ?hyb5 S0 ?hhb5
  case hib5 => (simp only [List.getElem?_toArray, List.getElem?_cons_succ, List.getElem?_cons_zero]; rfl)
  case hqb5 => exact fun _ _ _ h => h
  case hyb5 => exact Or.inl ⟨by rfl, by (intro W hSw; (try obtain ⟨s0, s1, s2, s3⟩ := hSw); go_simp; (try with_reducible rfl))⟩
  (try simp only [Act.put, List.setIfInBounds_toArray, List.set_cons_zero, List.set_cons_succ])
  refine tillH_next (rs := [5]) (by kernel_rfl) (by simp) ?_
  refine NextH.cons rfl (fun K hK => ?_) NextH.nil
  go_simp
  refine (HO.out _ HBD.out).mono ?_
  rintro e E2 ⟨rfl, b6⟩
  have HB2 := Lib.hid (HBD.out.trans (b6.mono HBD.out.size))
  clear b6 HBD HO
  refine hK.out _ _ (fun h => absurd h (by simp)) ?_
  clear hK K
  (try simp only [Act.put, List.setIfInBounds_toArray, List.set_cons_zero, List.set_cons_succ])
  refine tillH_takeAny (i := 6) (oi := ?oob6) (v := ?vvb6) ?hib6 (by kernel_rfl) (by kernel_rfl) (by kernel_rfl) ?hqb6 (by kernel_rfl) ?hyb6 (fun h => absurd h (by simp)) ?hhb6
  case hib6 => (simp only [List.getElem?_toArray, List.getElem?_cons_succ, List.getElem?_cons_zero]; rfl)
  case hqb6 => exact fun _ _ _ h => h
  case hyb6 => exact Or.inl ⟨by rfl, by (intro W; go_simp; (try with_reducible rfl))⟩
  (try simp only [Act.put, List.setIfInBounds_toArray, List.set_cons_zero, List.set_cons_succ])
  refine tillH_done (by kernel_rfl) ?_ _
  refine HKV.out _ _ ?_
  have HX := Lib.hid (HV.out.below HB2.out HV.out.lt)
  have c0 : E2.cell? ⟨b, 0, none⟩ = some (.int .i64 2) := by rw [HX.out.cell]; rfl
  go_wp2_with (fail)
  refine (val_name E2).mono ?_
  rintro e E3 ⟨rfl, b3⟩
  have HB3 := Lib.hid (HB2.out.trans (b3.mono HB2.out.size))
  clear b3 HB2 c0 HX S0
  go_wp2_with (fail)
  refine (HW.out.1 E3 HB3.out).mono ?_
  rintro e E4 ⟨rfl, b4⟩
  have HB4 := Lib.hid (HB3.out.trans (b4.mono HB3.out.size))
  clear b4 HB3
  go_wp2_with (fail)
  have HB5 := Lib.hid (HB4.out.alloc HB4.out.size (.cells #[.int .i64 k1, .int .i64 k2, .string k3] 26))
  refine (HW.out.2 _ HB5.out).mono ?_
  rintro e E5 ⟨rfl, b5⟩
  have HB6 := Lib.hid (HB5.out.trans (b5.mono HB5.out.size))
  clear b5 HB4 HB5
  have t7 : ¬ 9223372036854775807 < 9 + g.length := by omega
  go_wp2_with (fail)
  go_ret
  exact ⟨congrArg (fun b => Ending.returned (.string b)) (ByteArray.ext (by first | rfl | (apply Array.ext'; simp [ByteArray.data_append]))), HB6.out⟩
set_option maxRecDepth 100000 in
set_option maxHeartbeats 4000000 in
/-- An error: as Woe tells it. -/
theorem object_err {w : World} {m H b T : Nat} {n0 : Int} {s0 g : ByteArray} {pr kd at_ : Int} {clo : Bool} {ev tb wk fa : Value} {deep : Int} (hd : decide (deep < 9) = true)
    (x0 : w.cell? ⟨m, 0, none⟩ = some (.pointer (some ⟨H, 0, none⟩))) (hB : Blk w b 36 (objF 12 pr clo T ev tb wk fa kd at_))
    (hOf : ∀ W, Below w.heap.size w W → Calls Tryd.prog 9 #[.pointer (some ⟨H, 0, none⟩), VS 9 n0 s0] W fun e W' => e = .returned (.pointer (some ⟨b, 0, none⟩)) ∧ Below W.heap.size W W')
    (hWo : ∀ W, Below w.heap.size w W → Calls Tryd.prog 15 #[.pointer (some ⟨m, 0, none⟩), VS 9 n0 s0] W (ShwP g W)) :
    Calls Tryd.prog 44 #[.pointer (some ⟨m, 0, none⟩), VS 9 n0 s0, .int .i64 deep] w (ShwP g w) := by
  have HW := Lib.hid hWo
  clear hWo
  have b0 : Below w.heap.size w (w.alloc (.cells #[.int .i64 9, .int .i64 n0, .string s0] 26)) := (Below.refl _ _).alloc (Nat.le_refl _) _
  have HO := Lib.hid hOf
  have HB := Lib.hid b0
  have HV := Lib.hid hB
  have bx := Blk.new w 26 #[.int .i64 9, .int .i64 n0, .string s0]
  have HS : Hid ((w.alloc (.cells #[.int .i64 9, .int .i64 n0, .string s0] 26)).cell? ⟨m, 0, none⟩ = some (.pointer (some ⟨H, 0, none⟩)) ∧ (w.alloc (.cells #[.int .i64 9, .int .i64 n0, .string s0] 26)).cell? ⟨w.heap.size, 0, none⟩ = some (.int .i64 9) ∧ (w.alloc (.cells #[.int .i64 9, .int .i64 n0, .string s0] 26)).cell? ⟨w.heap.size, 1, none⟩ = some (.int .i64 n0) ∧ (w.alloc (.cells #[.int .i64 9, .int .i64 n0, .string s0] 26)).cell? ⟨w.heap.size, 2, none⟩ = some (.string s0)) := Lib.hid ⟨(b0.cell (World.block_lt_of_cell? w _ x0)).trans x0, by rw [bx.cell]; rfl, by rw [bx.cell]; rfl, by rw [bx.cell]; rfl⟩
  clear hOf b0 hB x0 bx
  go_enter Tryd.func44, Tryd.ntmps44
  go_wp2_with (fail)
  generalize w.alloc (.cells #[.int .i64 9, .int .i64 n0, .string s0] 26) = W1 at *
  refine wp_var0 (fun KV HKV => ?_)
  refine wp_region_till (m := 5) (S := (fun W => W.cell? ⟨m, 0, none⟩ = some (.pointer (some ⟨H, 0, none⟩)) ∧ W.cell? ⟨w.heap.size, 0, none⟩ = some (.int .i64 9) ∧ W.cell? ⟨w.heap.size, 1, none⟩ = some (.int .i64 n0) ∧ W.cell? ⟨w.heap.size, 2, none⟩ = some (.string s0))) (by kernel_rfl) ?_
  have e4 : W1.drew = W1.drewN 1 := rfl
  rw [e4]
  have S0 : (W1.drewN 1).cell? ⟨m, 0, none⟩ = some (.pointer (some ⟨H, 0, none⟩)) ∧ (W1.drewN 1).cell? ⟨w.heap.size, 0, none⟩ = some (.int .i64 9) ∧ (W1.drewN 1).cell? ⟨w.heap.size, 1, none⟩ = some (.int .i64 n0) ∧ (W1.drewN 1).cell? ⟨w.heap.size, 2, none⟩ = some (.string s0) := HS.out
  have HBD := Lib.hid (below_drw HB.out 1)
  clear e4 HS HB
  generalize W1.drewN 1 = E1 at *
  change tillH _ _ _ _ _ _ 7 #[false, false, false, false, false, false, false] _ _
  refine tillH_takeAny (i := 0) (oi := ?ooc7) (v := ?vvc7) ?hic7 (by kernel_rfl) (by kernel_rfl) (by kernel_rfl) ?hqc7 (by kernel_rfl) ?hyc7 (fun _ => S0) ?hhc7
  case hic7 => (simp only [List.getElem?_toArray, List.getElem?_cons_succ, List.getElem?_cons_zero]; rfl)
  case hqc7 => exact fun _ _ _ h => h
  case hyc7 => exact Or.inl ⟨by rfl, by (intro W; go_simp; (try with_reducible rfl))⟩
  (try simp only [Act.put, List.setIfInBounds_toArray, List.set_cons_zero, List.set_cons_succ])
  refine tillH_takeAny (i := 1) (oi := ?ooc8) (v := ?vvc8) ?hic8 (by kernel_rfl) (by kernel_rfl) (by kernel_rfl) ?hqc8 (by kernel_rfl) ?hyc8 (fun _ => S0) ?hhc8
  case hic8 => (simp only [List.getElem?_toArray, List.getElem?_cons_succ, List.getElem?_cons_zero]; rfl)
  case hqc8 => exact fun _ _ _ h => h
  case hyc8 => exact Or.inl ⟨by rfl, by (intro W; go_simp; (try with_reducible rfl))⟩
  (try simp only [Act.put, List.setIfInBounds_toArray, List.set_cons_zero, List.set_cons_succ])
  refine tillH_takeAny (i := 2) (oi := ?ooc9) (v := ?vvc9) ?hic9 (by kernel_rfl) (by kernel_rfl) (by kernel_rfl) ?hqc9 (by kernel_rfl) ?hyc9 (fun _ => S0) ?hhc9
  case hic9 => (simp only [List.getElem?_toArray, List.getElem?_cons_succ, List.getElem?_cons_zero]; rfl)
  case hqc9 => exact fun _ _ _ h => h
  case hyc9 => exact Or.inl ⟨by rfl, by (intro W; go_simp; (try with_reducible rfl))⟩
  (try simp only [Act.put, List.setIfInBounds_toArray, List.set_cons_zero, List.set_cons_succ])
  refine tillH_take (i := 3) (oi := ?ooc10) (v := ?vvc10) ?hic10 (by kernel_rfl) (by kernel_rfl) (by kernel_rfl) ?hqc10 (by kernel_rfl) (by kernel_rfl) (by kernel_rfl) ?hyc10 S0 ?hhc10
  case hic10 => (simp only [List.getElem?_toArray, List.getElem?_cons_succ, List.getElem?_cons_zero]; rfl)
  case hqc10 => exact fun _ _ _ h => h
  case hyc10 => exact Or.inl ⟨by rfl, by (intro W hSw; (try obtain ⟨s0, s1, s2, s3⟩ := hSw); go_simp; (try with_reducible rfl))⟩
  (try simp only [Act.put, List.setIfInBounds_toArray, List.set_cons_zero, List.set_cons_succ])
  refine tillH_take (i := 4) (oi := ?ooc11) (v := ?vvc11) ?hic11 (by kernel_rfl) (by kernel_rfl) (by kernel_rfl) ?hqc11 (by kernel_rfl) (by kernel_rfl) (by kernel_rfl) ?hyc11 S0 ?hhc11
  case hic11 => (simp only [List.getElem?_toArray, List.getElem?_cons_succ, List.getElem?_cons_zero]; rfl)
  case hqc11 => exact fun _ _ _ h => h
  case hyc11 => exact Or.inl ⟨by rfl, by (intro W hSw; (try obtain ⟨s0, s1, s2, s3⟩ := hSw); go_simp; (try with_reducible rfl))⟩
  (try simp only [Act.put, List.setIfInBounds_toArray, List.set_cons_zero, List.set_cons_succ])
  refine tillH_next (rs := [5]) (by kernel_rfl) (by simp) ?_
  refine NextH.cons rfl (fun K hK => ?_) NextH.nil
  go_simp
  refine (HO.out _ HBD.out).mono ?_
  rintro e E2 ⟨rfl, b6⟩
  have HB2 := Lib.hid (HBD.out.trans (b6.mono HBD.out.size))
  have HS2 := Lib.hid (And.intro ((b6.cell (World.block_lt_of_cell? _ _ S0.2.1)).trans S0.2.1) (And.intro ((b6.cell (World.block_lt_of_cell? _ _ S0.2.2.1)).trans S0.2.2.1) ((b6.cell (World.block_lt_of_cell? _ _ S0.2.2.2)).trans S0.2.2.2)))
  clear b6 HBD HO
  refine hK.out _ _ (fun h => absurd h (by simp)) ?_
  clear hK K
  (try simp only [Act.put, List.setIfInBounds_toArray, List.set_cons_zero, List.set_cons_succ])
  refine tillH_takeAny (i := 6) (oi := ?ooc12) (v := ?vvc12) ?hic12 (by kernel_rfl) (by kernel_rfl) (by kernel_rfl) ?hqc12 (by kernel_rfl) ?hyc12 (fun h => absurd h (by simp)) ?hhc12
  case hic12 => (simp only [List.getElem?_toArray, List.getElem?_cons_succ, List.getElem?_cons_zero]; rfl)
  case hqc12 => exact fun _ _ _ h => h
  case hyc12 => exact Or.inl ⟨by rfl, by (intro W; go_simp; (try with_reducible rfl))⟩
  (try simp only [Act.put, List.setIfInBounds_toArray, List.set_cons_zero, List.set_cons_succ])
  refine tillH_done (by kernel_rfl) ?_ _
  refine HKV.out _ _ ?_
  have HX := Lib.hid (HV.out.below HB2.out HV.out.lt)
  have c0 : E2.cell? ⟨b, 0, none⟩ = some (.int .i64 12) := by rw [HX.out.cell]; rfl
  obtain ⟨v0, v1, v2⟩ := HS2.out
  go_wp2_with (fail)
  refine (HW.out E2 HB2.out).mono ?_
  rintro e E3 ⟨rfl, b3⟩
  have HB3 := Lib.hid (HB2.out.trans (b3.mono HB2.out.size))
  clear b3 HB2 c0 HX S0 v0 v1 v2 HS2
  go_wp2
  go_ret
  exact ⟨rfl, HB3.out⟩
end Go.Proofs.YtdeboajjhpecbaaDoor.Hp
