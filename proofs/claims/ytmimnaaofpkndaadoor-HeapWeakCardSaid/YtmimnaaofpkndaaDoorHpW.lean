/- The heap: a heap of one array, as the statement HeapLengths turns it. -/
import Derived.Test.YtmimnaaofpkndaaDoorHpV
set_option linter.unusedVariables false
set_option linter.unusedSimpArgs false
namespace Go.Proofs.YtmimnaaofpkndaaDoor.Hp
open Go.RowKit Go.Proofs.YtmimnaaofpkndaaDoor Go.Shelf
attribute [local go_sem] Oper.semAt_some

structure HL (w0 w : World) (H A B b T : Nat) (L : List K3) : Prop where
  ex : ∃ cv lv, HA w H A B b T cv lv L ∧ ∀ g, lv.ownBlock = some g → w0.heap.size ≤ g
  lg : Lg w
  bel : Below w0.heap.size w0 w
  lb : w0.heap.size ≤ b
  l0 : 0 < w0.heap.size
  lo : L.length ≤ 1000
section
variable {w0 w w' : World} {H A B b T : Nat} {L : List K3}
theorem HL.below (h : HL w0 w H A B b T L) (u : Below w.heap.size w w') : HL w0 w' H A B b T L := by
  obtain ⟨cv, lv, h1, h2⟩ := h.ex
  exact ⟨⟨cv, lv, h1.below u, h2⟩, h.lg.below u, h.bel.trans (u.mono h.bel.size), h.lb, h.l0, h.lo⟩
theorem HL.step {cv lv lv' : Value} {L' : List K3} (h : HL w0 w H A B b T L) (ha : HA w H A B b T cv lv L) (hg : ∀ g, lv.ownBlock = some g → w0.heap.size ≤ g) (s : ArrS w w' b T 0 lv lv' L') (hl : L'.length ≤ 1000) : HL w0 w' H A B b T L' := by
  have hno : ∀ x, (x = b ∨ lv.ownBlock = some x) → w0.heap.size ≤ x := fun x hx => hx.elim (fun e => e ▸ h.lb) (hg x)
  refine ⟨⟨cv, lv', ha.step s, fun g e => (s.nw g e).elim (hg g) (Nat.le_trans h.bel.size)⟩, h.lg.upd s.up (fun e => by have := hno 0 e; have := h.l0; omega), ?_, h.lb, h.l0, hl⟩
  exact h.bel.trans (s.up.below h.bel.size (fun x e => by have := hno x e; omega))
/-- The length is set. -/
theorem HL.put_len (h : HL w0 w H A B b T L) (k : Nat) (hk : k ≤ 1000) : Calls Tryd.prog 16 #[.pointer (some ⟨H, 0, none⟩), .int .i64 1, VK lenK, VS 3 (k : Int) ⟨#[]⟩] w fun e w' => e = .returned (.bool true) ∧ ∃ L', HL w0 w' H A B b T L' ∧ L'.length = k := by
  obtain ⟨cv, lv, ha, hg⟩ := h.ex
  refine put_own ha lenK (3, (k : Int), ⟨#[]⟩) (3, (L.length : Int), ⟨#[]⟩) 1 (.inl rfl) true _ (fun W bw => own_len b T 0 lv L W (ha.ar.below bw) (h.lg.below bw) h.lo) (fun W bw => ?_)
  refine define_len b T 0 lv L 3 (k : Int) ⟨#[]⟩ W (ha.ar.below bw) (h.lg.below bw) h.lo true _ (fun W2 bw2 => ?_)
  have h2 := (h.below bw).below bw2
  have ha2 := (ha.below bw).below bw2
  refine (resize_any b T 0 k lv L ⟨#[]⟩ W2 ha2.ar h.lo hk (Nat.zero_le _)).mono ?_
  rintro e w' ⟨rfl, lv', hs⟩
  have hl : ((L ++ List.replicate (k - L.length) E0).take k).length = k := by simp; omega
  exact ⟨rfl, _, h2.step ha2 hg hs (by omega), hl⟩
theorem HL.put_no (h : HL w0 w H A B b T L) (k1 k2 : Int) (s : ByteArray) (hk : k1 ≠ 3 ∨ k2 < 0 ∨ 1000 < k2) : Calls Tryd.prog 16 #[.pointer (some ⟨H, 0, none⟩), .int .i64 1, VK lenK, VS k1 k2 s] w fun e w' => e = .returned (.bool false) ∧ HL w0 w' H A B b T L := by
  obtain ⟨cv, lv, ha, hg⟩ := h.ex
  refine put_own ha lenK (k1, k2, s) (3, (L.length : Int), ⟨#[]⟩) 1 (.inl rfl) false _ (fun W bw => own_len b T 0 lv L W (ha.ar.below bw) (h.lg.below bw) h.lo) (fun W bw => ?_)
  refine define_len b T 0 lv L k1 k2 s W (ha.ar.below bw) (h.lg.below bw) h.lo false _ (fun W2 bw2 => ?_)
  refine (resize_no b T 0 k1 k2 lv L s W2 ((ha.below bw).below bw2).ar hk).mono ?_
  rintro e w' ⟨rfl, b3⟩
  exact ⟨rfl, ((h.below bw).below bw2).below b3⟩
/-- A place is set. -/
theorem HL.put_at (h : HL w0 w H A B b T L) (i : Nat) (k v : K3) (hk : idxV 1 k = (i : Int)) (hsz : k.2.2.size ≤ 4000) (hi : i < 1000) : Calls Tryd.prog 16 #[.pointer (some ⟨H, 0, none⟩), .int .i64 1, VK k, VK v] w fun e w' => e = .returned (.bool true) ∧ ∃ L', HL w0 w' H A B b T L' ∧ L'.length = max L.length (i + 1) ∧ L'[i]? = some v := by
  obtain ⟨cv, lv, ha, hg⟩ := h.ex
  have hdef : ∀ W, Below w.heap.size w W → Calls Tryd.prog 12 #[.pointer (some ⟨b, 0, none⟩), VK k, VK v, .int .i64 7] W fun e w' => e = .returned (.bool true) ∧ ∃ L', HL w0 w' H A B b T L' ∧ L'.length = max L.length (i + 1) ∧ L'[i]? = some v := fun W bw => by
    refine (define_idx b T 0 i lv L k v W (ha.ar.below bw) hk hsz h.lo hi (Nat.zero_le _)).mono ?_
    rintro e w' ⟨rfl, lv', hs⟩
    have hl : ((L ++ List.replicate (i + 1 - L.length) E0).set i v).length = max L.length (i + 1) := by simp; omega
    have := h.lo
    exact ⟨rfl, _, (h.below bw).step (ha.below bw) hg hs (by omega), hl, by rw [List.getElem?_set_self (by simp; omega)]⟩
  rcases Nat.lt_or_ge i L.length with hil | hil
  · obtain ⟨x, hx⟩ : ∃ x, L[i]? = some x := ⟨_, List.getElem?_eq_getElem hil⟩
    by_cases h10 : x.1 = 10
    · exact put_new ha k v (0, 0, ⟨#[]⟩) true _ (fun W bw => own_hole b T 0 lv L i k x W (ha.ar.below bw) hk hx h10 hsz h.lo) hdef
    · exact put_own ha k v x 7 (.inr rfl) true _ (fun W bw => own_at b T 0 lv L i k x W (ha.ar.below bw) hk hx h10 hsz h.lo) hdef
  · exact put_new ha k v (0, 0, ⟨#[]⟩) true _ (fun W bw => own_out b T 0 lv L i k W (ha.ar.below bw) hk hil hsz h.lo) hdef
theorem HL.own_at (h : HL w0 w H A B b T L) (i : Nat) (k x : K3) (hk : idxV 1 k = (i : Int)) (hsz : k.2.2.size ≤ 4000) (hx : L[i]? = some x) (h10 : x.1 ≠ 10) : Calls Tryd.prog 18 #[.pointer (some ⟨b, 0, none⟩), VK k] w fun e w' => e = .returned (.tuple #[VK x, .int .i64 7, .bool true]) ∧ Below w.heap.size w w' := by
  obtain ⟨cv, lv, ha, hg⟩ := h.ex
  exact Hp.own_at b T 0 lv L i k x w ha.ar hk hx h10 hsz h.lo
theorem HL.own_len (h : HL w0 w H A B b T L) : Calls Tryd.prog 18 #[.pointer (some ⟨b, 0, none⟩), VK lenK] w fun e w' => e = .returned (.tuple #[VK (3, (L.length : Int), ⟨#[]⟩), .int .i64 1, .bool true]) ∧ Below w.heap.size w w' := by
  obtain ⟨cv, lv, ha, hg⟩ := h.ex
  exact Hp.own_len b T 0 lv L w ha.ar h.lg h.lo
theorem HL.elems (h : HL w0 w H A B b T L) : ∃ a c, w.cell? ⟨b, 4, none⟩ = some (.slice a L.length c) := by
  obtain ⟨cv, lv, ha, hg⟩ := h.ex
  obtain ⟨a, c, rfl, _⟩ := own_shape ha.ar.row
  exact ⟨a, c, by rw [ha.ar.ob.cell]; rfl⟩
set_option maxHeartbeats 2000000 in
theorem HL.del_len (h : HL w0 w H A B b T L) : Calls Tryd.prog 19 #[.pointer (some ⟨b, 0, none⟩), VK lenK] w fun e w' => e = .returned (.bool false) ∧ Below w.heap.size w w' := by
  have HH := Lib.hid (fun W (bw : Below w.heap.size w W) => (h.below bw).own_len)
  obtain ⟨n, hn⟩ : ∃ n : Int, (L.length : Int) = n := ⟨_, rfl⟩
  rw [hn] at HH
  clear h hn
  generalize lenK = k at *
  obtain ⟨k1, k2, k3⟩ := k
  have bb : Below w.heap.size w (w.alloc (.cells #[.int .i64 k1, .int .i64 k2, .string k3] 34)) := (Below.refl _ _).alloc (Nat.le_refl _) _
  have HB := Lib.hid bb
  clear bb
  have a0 : bits .and .i64 1 4 = 0 := by decide
  go_enter Tryd.func19, Tryd.ntmps19
  go_wp2_with (fail)
  refine (HH.out _ HB.out).mono ?_
  rintro e w2 ⟨rfl, b2⟩
  have b02 := HB.out.trans (b2.mono HB.out.size)
  have b03 := b02.alloc b02.size (.cells #[.int .i64 3, .int .i64 n, .string ⟨#[]⟩] 34)
  have HB3 := Lib.hid b03
  clear b2 b02 b03 HB HH
  go_wp2
  go_ret
  exact ⟨rfl, HB3.out⟩
theorem keyD_idx (i : Nat) (hi : i < 1000) : idxV 1 (keyD i) = (i : Int) := by
  unfold idxV
  rw [if_pos ⟨rfl, rfl⟩]
  show Tx.indexOf (keyL (Tx.decB i)).2.2 = _
  rw [keyL_idx _ (Tx.decB_ascii i (by omega)), Tx.idxL_dec i (by omega), if_neg (by omega)]
theorem keyD_size (i : Nat) (hi : i < 1000) : (keyD i).2.2.size ≤ 4000 := keyL_size _ (Tx.decB_ascii i (by omega)) (by have := decB_len i (by omega); omega)
theorem keyD_any (i : Nat) (hi : i < 1000) (w : World) : Calls Tryd.prog 13 #[.string ⟨(Tx.decB i).toArray⟩] w fun e w' => e = .returned (VK (keyD i)) ∧ Below w.heap.size w w' := keyL_any _ (by have := decB_len i (by omega); omega) w
theorem lenK_any (w : World) : Calls Tryd.prog 13 #[.string ⟨#[108, 101, 110, 103, 116, 104]⟩] w fun e w' => e = .returned (VK lenK) ∧ Below w.heap.size w w' := by
  have := keyL_any [108, 101, 110, 103, 116, 104] (by decide) w
  rwa [keyL_len] at this
theorem HL.made {e : Ending} (hlg : Lg w) (hP : MakP 1 0 (w.heap.size + 1) w.heap.size w.heap.size nilS nilS nilS [] [] 0 (newW w) e w') : ∃ b T, e = .returned (.tuple #[.int .i64 1, .pointer (some ⟨b, 0, none⟩)]) ∧ HL w w' (w.heap.size + 1) w.heap.size w.heap.size b T [] := by
  obtain ⟨b', T', cv', rfl, hT, hTb, hbl, _, hx, u, _⟩ := hP
  have hs := (newW_below w).size
  have hl0 := hlg.lt
  refine ⟨b', T', rfl, ⟨cv', nilS, ⟨hx, ⟨hbl, World.ownsRow_nil _ _ _ _⟩⟩, fun g hg => by simp [Value.ownBlock] at hg⟩, ?_, ?_, by omega, hl0, by simp⟩
  · exact (hlg.below (newW_below w)).upd u (fun e => e.elim (fun e => by omega) (fun e => by simp [Value.ownBlock] at e))
  · exact (newW_below w).trans (u.below hs (fun x e => e.elim (fun e => by omega) (fun e => by simp [Value.ownBlock] at e)))
end
end Go.Proofs.YtmimnaaofpkndaaDoor.Hp
