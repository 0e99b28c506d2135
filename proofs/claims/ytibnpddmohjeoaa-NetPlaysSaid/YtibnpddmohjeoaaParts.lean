/- NetParts: plain part and the walk. -/
import Derived.Test.YtibnpddmohjeoaaDrains
namespace Go.Proofs.Ytibnpddmohjeoaa
open Go.RowKit

/-- A slice of int8. -/
def I8At (w : World) (a : Option Addr) (n c : Nat) (l : List Int) : Prop :=
  n ≤ c ∧ l.length = n ∧ ∀ i, i < n → ∃ g o, a = some ⟨g, o, none⟩ ∧ g < w.heap.size ∧ w.cell? ⟨g, o + i, none⟩ = some (.int .i8 l[i]!) ∧ -128 ≤ l[i]! ∧ l[i]! ≤ 127
/-- A slice of pairs of uint8. -/
def U8pAt (w : World) (a : Option Addr) (n c : Nat) (l : List (Int × Int)) : Prop :=
  n ≤ c ∧ l.length = n ∧ ∀ i, i < n → ∃ g o, a = some ⟨g, o, none⟩ ∧ g < w.heap.size ∧ w.cell? ⟨g, o + i * 2, none⟩ = some (.int .u8 l[i]!.1) ∧ w.cell? ⟨g, o + i * 2 + 1, none⟩ = some (.int .u8 l[i]!.2) ∧ 0 ≤ l[i]!.1 ∧ l[i]!.1 ≤ 255 ∧ 0 ≤ l[i]!.2 ∧ l[i]!.2 ≤ 255
def iV (l : List Int) : List Value := l.map (.int .i64 ·)
theorem iV_len (l : List Int) : (iV l).length = l.length := by simp [iV]
/-- A row of ints. -/
def RowI (w : World) (v : Value) (l : List Int) : Prop := w.ownsRow 0 3 1 v l.length (iV l)
def gL (l : List Int) : List Int := (l.take 8).map (·.tmod 3)
theorem info3 : (Try.prog.info? 3).map (fun i => (i.zero, i.size, i.bytes)) = some (some (.int .i64 0), 1, 8) := by kernel_rfl
theorem iV_get (l : List Int) (i : Nat) (h : i < l.length) : (iV l)[i]? = some (.int .i64 l[i]!) := by
  simp [iV, List.getElem?_eq_getElem h, List.getElem!_eq_getElem?_getD]

theorem gL_in (gs : List Int) (i : Nat) (h : i < (gL gs).length) : InI (gL gs)[i]! := by
  rw [List.getElem!_eq_getElem?_getD, List.getElem?_eq_getElem h]
  simp only [Option.getD_some]
  have hm : (gL gs)[i] ∈ gL gs := List.getElem_mem h
  unfold gL at hm
  rw [List.mem_map] at hm
  obtain ⟨t, _, ht⟩ := hm
  unfold gL
  rw [← ht]
  have hm1 : t.tmod 3 < 3 := Int.tmod_lt_of_pos _ (by omega)
  have hm2 := Int.lt_tmod_of_pos t (show (0 : Int) < 3 by omega)
  unfold InI
  omega
theorem RowI.slice {w : World} {v : Value} {l : List Int} (h : RowI w v l) : v = .slice none 0 0 ∧ l = [] ∨ ∃ g c, v = .slice (some ⟨g, 0, none⟩) l.length c ∧ g < w.heap.size := by
  rcases h.2 with ⟨rfl, h0⟩ | ⟨g, c, cur, rfl, _⟩
  · exact Or.inl ⟨rfl, List.eq_nil_of_length_eq_zero h0⟩
  · exact Or.inr ⟨g, c, rfl, (World.ownsRow.lt h g rfl).2⟩
theorem iV_one (l : List Int) : ∀ u ∈ iV l, u.oneCell' = true := by
  intro u hu
  simp only [iV, List.mem_map] at hu
  obtain ⟨t, _, rfl⟩ := hu
  rfl
theorem RowI.cell {w : World} {g c : Nat} {l : List Int} (h : RowI w (.slice (some ⟨g, 0, none⟩) l.length c) l) (i : Nat) (hi : i < l.length) : w.cell? ⟨g, i, none⟩ = some (.int .i64 l[i]!) := by
  rw [World.ownsRow.cellAt h i (by simpa using hi), iV_get l i hi]
theorem RowI.ints {w : World} {v : Value} {l : List Int} (h : RowI w v l) (hl : ∀ i, i < l.length → InI l[i]!) : IntsAt w v l := by
  rcases h.slice with ⟨rfl, rfl⟩ | ⟨g, c, rfl, hg⟩
  · exact Or.inl ⟨_, _, rfl, rfl⟩
  · exact Or.inr ⟨g, 0, c, rfl, fun i hi => ⟨by rw [Nat.zero_add]; exact h.cell i hi, hl i hi⟩⟩
theorem RowI.kb {S : Nat → Prop} {w w' : World} {v : Value} {l : List Int} (h : RowI w v l) (k : Kb S w w') (hs : ∀ g, v.ownBlock = some g → ¬ S g) : RowI w' v l := k.row h hs
def RowP (v : Value) (l : List Int) : (Nat → Prop) → World → Prop := fun S w => RowI w v l ∧ ∀ g, v.ownBlock = some g → S g
theorem stab_row (v : Value) (l : List Int) : Stab (RowP v l) :=
  ⟨fun h k d => ⟨h.1.kb k (fun g e => d g (h.2 g e)), h.2⟩, fun h => ⟨h.1, fun g e => ⟨h.2 g e, (World.ownsRow.lt h.1 g e).2⟩⟩⟩

theorem pt_send (st : St) (now : Int) (G : Int → Int) (f t : Int) (h1 : st.script = []) (h2 : st.nodes = 8) (h3 : st.grp = G) (h4 : st.waiting = []) (hf : 0 ≤ f) (ht : 0 ≤ t) :
    (sendS st now ⟨f, t, ⟨#[]⟩⟩).waiting = [] ∧ (8 ≤ t ∨ t < 8 ∧ f < 8 ∧ G f ≠ G t) ∨ (sendS st now ⟨f, t, ⟨#[]⟩⟩).waiting.length = 1 ∧ t < 8 ∧ (8 ≤ f ∨ f < 8 ∧ G f = G t) := by
  have hd : drops st ⟨f, t, ⟨#[]⟩⟩ = (!decide (t < 8) || (decide (f < 8) && (G f != G t))) := by
    unfold drops isNode
    rw [h1, h2, h3]
    simp [trOf, hf, ht]
  unfold sendS
  rw [hd]
  by_cases a : t < 8
  · by_cases b : f < 8
    · by_cases c : G f = G t
      · right
        simp [a, b, c, pushK_length, h4, h1, trOf, copiesOf]
        try rfl
      · left
        simp [a, b, c, h4]
    · right
      have : 8 ≤ f := by omega
      simp [a, b, this, pushK_length, h4, h1, trOf, copiesOf]
      try rfl
  · left
    have : 8 ≤ t := by omega
    simp [a, h4, this]
def PtS (G : Int → Int) (j : Nat) (st : St) : Prop := st.script = [] ∧ st.nodes = 8 ∧ st.grp = G ∧ st.sent = j ∧ st.waiting = []

set_option maxHeartbeats 4000000 in
set_option maxRecDepth 100000 in
theorem parts_any (a : Option Addr) (n c : Nat) (gs : List Int) (a2 : Option Addr) (n2 c2 : Nat) (l : List (Int × Int)) (w : World) (hn : n ≤ 9223372036854775807) (hn2 : n2 ≤ 9223372036854775807) (hg : I8At w a n c gs) (hl : U8pAt w a2 n2 c2 l) :
    Calls Try.prog 10 #[.slice a n c, .slice a2 n2 c2] w fun e w' => e = .returned (.bool true) ∧ Kb (fun _ => False) w w' := by
  have HG := hid hg
  have HL := hid hl
  have hnc := hg.1
  have hnc2 := hl.1
  clear hg hl
  obtain ⟨i0, hi0, hz0, hz1, hz2⟩ := info_parts info3
  go_enter Try.func10, Try.ntmps10
  go_wp2_with fail
  refine (sanity_any w).mono ?_
  rintro e w1 ⟨rfl, k1⟩
  have zk1 := k1.size
  have K1 := hid k1
  clear k1
  go_wp2_with fail
  go_loopw [6, 7] (fun gv kv wr => ∃ k : Nat, kv = .int .i64 k ∧ k ≤ n ∧ k ≤ 8 ∧ Kb (fun _ => False) w1 wr ∧ wr.ownsRow 0 3 1 gv k (iV ((gs.take k).map (·.tmod 3))) ∧ Hid (∀ g, gv.ownBlock = some g → w1.heap.size ≤ g)) (fun _ kv _ => 8 - (intOf kv).toNat)
  case atStart => exact ⟨0, rfl, by omega, by omega, Kb.refl _ _, World.ownsRow_nil .., by intro g e; cases e⟩
  case round =>
    obtain ⟨k, rfl, hk1, hk2, hkb, hown, hblk⟩ := hrel
    by_cases hlt : k < n ∧ k < 8
    · obtain ⟨hlt1, hlt2⟩ := hlt
      obtain ⟨g, o, rfl, hg, hc, hb1, hb2⟩ := HG.out.2.2 k hlt1
      have c0 := hkb.cell (K1.out.cell hc (by simp)) (by simp)
      have hsn : iV ((gs.take (k + 1)).map (·.tmod 3)) = iV ((gs.take k).map (·.tmod 3)) ++ [.int .i64 (gs[k]!.tmod 3)] := by
        rw [List.take_succ_eq_append_getElem (by rw [HG.out.2.1]; exact hlt1), List.map_append, List.getElem!_eq_getElem?_getD, List.getElem?_eq_getElem (by rw [HG.out.2.1]; exact hlt1)]
        simp [iV]
      generalize gs[k]! = t at *
      have hgl : g < wr.heap.size := World.block_lt_of_cell? wr _ c0
      have hm1 : t.tmod 3 < 3 := Int.tmod_lt_of_pos _ (by omega)
      have hm2 : -3 < t.tmod 3 := by
        have := Int.lt_tmod_of_pos t (show (0 : Int) < 3 by omega)
        omega
      have e1 : IntKind.i8.wrap (t.tmod 3) = t.tmod 3 := IntWalk.i8_in _ (by omega)
      have HSN := hid hsn
      have HO := hid hown
      clear hsn hc hown
      go_wp2_with (at_builtin; go_must (refine wpList_append_own_at _ rfl _ _ _ rfl 0 3 i0 _ 1 8 Try.underlying32 hi0 hz0 hz1 hz2 rfl (by omega) _ k (iV ((gs.take k).map (·.tmod 3))) (by rfl) (HO.out.alloc _) ⟨wr.heap.size, 0, none⟩ 1 1 [.int .i64 (t.tmod 3)] (by rfl) (by rfl) (World.news_of_block (cs := #[.int .i64 (t.tmod 3)]) (t := 3) (fr := (0, 0)) (heap_alloc_new wr _)) (by simp [Value.oneCell']) (by unfold maxLen; omega) (by omega) (Nat.zero_le _) ?_); intro v' w2 hown1 hgrow _ hat)
      refine ⟨⟨k + 1, by go_num, by omega, by omega, ?_, ?_, ?_⟩, by simp [intOf]; omega⟩
      · exact (hkb.alloc _).grown hgrow (fun g' e => Or.inr (hblk.out g' e))
      · rw [HSN.out]
        exact hown1
      · intro g' e
        rcases hat with h | h
        · rw [h] at e
          exact hblk.out g' e
        · have e2 := h.symm.trans e
          simp only [Option.some.injEq, World.size_alloc] at e2
          have := hkb.size
          omega
    · have hkk : k = min 8 gs.length := by rw [HG.out.2.1]; omega
      have ht : (gs.take k).map (·.tmod 3) = gL gs := by
        unfold gL
        rw [hkk]
        rcases Nat.le_total 8 gs.length with h | h
        · rw [Nat.min_eq_left h]
        · rw [Nat.min_eq_right h, List.take_length, List.take_of_length_le h]
      have hkl : (gL gs).length = k := by rw [← ht, List.length_map, List.length_take, HG.out.2.1]; omega
      have hres : RowI wr u6 (gL gs) := by
        unfold RowI
        rw [hkl, ← ht]
        exact hown
      have HR := hid hres
      have HKL := hid hkl
      have KB := hid hkb
      have zr := hkb.size
      clear hkk ht hres hown hkb hkl
      have hend : k < n ∧ (8 : Int) ≤ k ∨ (n : Int) ≤ k := by omega
      clear hlt
      rcases hend with ⟨hend, hk8⟩ | hend
      all_goals
        go_wp2_with fail
        obtain ⟨wa, rfl⟩ : ∃ wa : World, wa = wr := ⟨_, rfl⟩
        refine (new_any 8 _ [] wa (by simp) (World.ownsRow_nil ..)).mono ?_
        rintro e w3 ⟨nb, rfl, k3, n3⟩
        have zk3 := k3.size
        have N3 : Hid (One wa.heap.size nb (newS 8 []) w3) := n3
        have R3 := hid (HR.out.kb k3 (fun _ _ => by simp))
        have K3 := hid (k3.mono (T := fun x => wa.heap.size ≤ x) (fun _ _ x => x.elim))
        have hu : ∀ g, u6.ownBlock = some g → g < wa.heap.size := fun g e => (World.ownsRow.lt HR.out g e).2
        have HU := hid hu
        clear k3 n3 HR hu
        go_wp2_with fail
        refine (one_part N3.out zk3 (gL gs) u6 (R3.out.ints (gL_in gs)) HU.out (by rw [HKL.out]; omega)).mono ?_
        rintro e w5 ⟨rfl, n5, k5⟩
        have zk5 := k5.size
        have N5 := hid n5
        have R5 := hid (R3.out.kb k5 (fun g e h => by have := HU.out g e; have : wa.heap.size ≤ g := h; omega))
        have K5 := hid (K3.out.trans k5)
        clear n5 k5 N3 R3 K3
        have ht : ∃ sa sc, u6 = .slice sa k sc := by
          rcases R5.out.slice with ⟨rfl, h0⟩ | ⟨g, c', rfl, _⟩
          · have h1 := HKL.out
            rw [h0] at h1
            simp only [List.length_nil] at h1
            subst h1
            exact ⟨_, _, rfl⟩
          · rw [HKL.out]
            exact ⟨_, _, rfl⟩
        obtain ⟨sa, sc, rfl⟩ := ht
        go_upto_region 9 with fail
        go_cut [9] (fun ov wx => ∃ oa oc, ov = .slice oa k oc ∧ Hid (RowI wx ov (gL gs)) ∧ Hid (Kb (fun _ => False) w5 wx) ∧ Hid (∀ g, ov.ownBlock = some g → w5.heap.size ≤ g))
        case first =>
          rcases R5.out.slice with ⟨hsl, hnil⟩ | ⟨g, c', hsl, hg⟩
          · simp only [Value.slice.injEq] at hsl
            obtain ⟨rfl, rfl, rfl⟩ := hsl
            go_wp2_with fail
            go_meet
            refine ⟨_, _, rfl, ?_, (Kb.refl _ _).alloc _, ?_⟩
            · rw [hnil]
              exact World.ownsRow_made w5 #[] 0 (Nat.zero_le _) (by decide) rfl
            · intro g e
              simp only [Value.ownBlock, Option.some.injEq] at e
              omega
          · rw [HKL.out] at hsl
            simp only [Value.slice.injEq] at hsl
            obtain ⟨rfl, _, rfl⟩ := hsl
            have hnews : ∀ o j u, (iV (gL gs))[j]? = some u → (w5.alloc o).cell? ((⟨g, 0, none⟩ : Addr).add j) = some u := by
              intro o j u hu
              have hb : ((⟨g, 0, none⟩ : Addr).add j).block < w5.heap.size := by unfold Addr.add; split <;> exact hg
              rw [World.cell?_alloc_lt _ _ _ hb]
              have hj : j < (gL gs).length := by
                have := (List.getElem?_eq_some_iff.1 hu).1
                rwa [iV_len] at this
              rw [iV_get _ _ hj] at hu
              have h := R5.out
              rw [← HKL.out] at h
              have h2 := h.cell j hj
              unfold Addr.add
              split
              · rename_i e; subst e; rw [h2]; exact hu
              · simp only [Nat.zero_add]; rw [h2]; exact hu
            have hown0 : (w5.alloc (.cells #[] 3)).ownsRow 0 3 1 (.slice (some ⟨w5.heap.size, 0, none⟩) 0 0) 0 [] := World.ownsRow_made w5 #[] 0 (Nat.zero_le _) (by decide) rfl
            have HN := hid hnews
            have HO := hid hown0
            clear hnews hown0
            go_wp2_with (at_builtin; go_must (refine wpList_append_own_at _ rfl _ _ _ rfl 0 3 i0 _ 1 8 Try.underlying32 hi0 hz0 hz1 hz2 rfl (by omega) (.slice (some ⟨w5.heap.size, 0, none⟩) 0 0) 0 [] (by rfl) HO.out ⟨g, 0, none⟩ k sc (iV (gL gs)) (by rfl) (by rw [iV_len, HKL.out]; omega) (HN.out _) (iV_one _) (by unfold maxLen; omega) (by omega) (Nat.zero_le _) ?_); intro v' w4 hown1 hgrow _ hat)
            go_meet
            rw [Nat.zero_add, List.nil_append] at hown1
            have hres : RowI w4 v' (gL gs) := by
              unfold RowI
              rw [HKL.out]
              exact hown1
            have hb : ∀ g, v'.ownBlock = some g → w5.heap.size ≤ g := by
              intro g' e
              rcases hat with h | h
              · rw [h] at e
                simp only [Value.ownBlock, Option.some.injEq] at e
                omega
              · have e2 := h.symm.trans e
                simp only [Option.some.injEq, World.size_alloc] at e2
                omega
            have hform : ∃ oa oc, v' = .slice oa k oc := by
              rcases hres.slice with ⟨rfl, h0⟩ | ⟨g, c', rfl, _⟩
              · have h1 := HKL.out
                rw [h0] at h1
                simp only [List.length_nil] at h1
                subst h1
                exact ⟨_, _, rfl⟩
              · rw [HKL.out]
                exact ⟨_, _, rfl⟩
            obtain ⟨oa, oc, rfl⟩ := hform
            exact ⟨_, _, rfl, hres, ((Kb.refl _ _).alloc _).grown hgrow (fun k' e => by simp only [Value.ownBlock, Option.some.injEq] at e; right; omega), hb⟩
        case rest =>
          obtain ⟨oa, oc, rfl, RO, KO, hob⟩ := hcut
          have S6 : Hid (Sep wa.heap.size (NetP nb (partS (newS 8 []) (gL gs))) (RowP (.slice oa k oc) (gL gs)) wc) := by
            have n4 := NetIs.old N5.out
            have zx := KO.out.size
            refine ⟨fun x => wa.heap.size ≤ x ∧ x < w5.heap.size, fun x => w5.heap.size ≤ x ∧ x < wc.heap.size, n4.kb KO.out (fun _ _ x => x), ⟨RO.out, fun g e => ⟨hob.out g e, (World.ownsRow.lt RO.out g e).2⟩⟩, ?_, ?_⟩
            · rintro x ⟨h1, h2⟩
              exact ⟨h1, by omega, by rintro ⟨h, _⟩; omega⟩
            · rintro x ⟨h1, h2⟩
              exact ⟨by omega, h2⟩
          have RG : Hid (wc.ownsRow 0 3 1 (.slice sa k sc) k (iV (gL gs))) := by
            have h := R5.out.kb KO.out (fun _ _ => by simp)
            unfold RowI at h
            rw [HKL.out] at h
            exact h
          have KX := hid (K5.out.trans (KO.out.mono (T := fun x => wa.heap.size ≤ x) (fun _ _ x => x.elim)))
          clear N5 R5 K5 KO RO
          go_wp2_with fail
          go_loopw [10] (fun kv wy => ∃ (j : Nat) (m : List Value), kv = .int .i64 j ∧ j ≤ k ∧ Hid (m.length = k) ∧ wy.ownsRow 0 3 1 (.slice sa k sc) k m ∧ Kb (fun x => (Value.slice sa k sc).ownBlock = some x) wc wy) (fun kv _ => k - (intOf kv).toNat)
          case atStart => exact ⟨0, _, rfl, Nat.zero_le _, by (show (iV (gL gs)).length = k; rw [iV_len, HKL.out]), RG.out, Kb.refl _ _⟩
          case round =>
            obtain ⟨j, m, rfl, hj, hml, hr, hkb⟩ := hrel
            by_cases hlt : j < k
            · obtain ⟨g, c', e, _, hgl⟩ := hr.form (by omega)
              simp only [Value.slice.injEq] at e
              obtain ⟨rfl, _, rfl⟩ := e
              have c0 := World.ownsRow.cellAt hr j (by omega)
              rw [List.getElem?_eq_getElem (show j < m.length by rw [hml.out]; exact hlt)] at c0
              generalize hmj : m[j]'_ = mj at c0
              clear hmj
              have fz := World.ownsRow.frozenAt hr
              have HR := hid hr
              clear hr
              go_wp2_with fail
              have h3 := (HR.out.stored j (.int .i64 5)).1
              refine ⟨⟨j + 1, _, by go_num, by omega, (by (show (m.set j _).length = k; rw [List.length_set]; exact hml.out)), h3, ?_⟩, by simp [intOf]; omega⟩
              exact Kb.setCell (S := fun x => (Value.slice (some ⟨g, 0, none⟩) k sc).ownBlock = some x) hkb (by exact Or.inl rfl) _
            · have hjk : j = k := by omega
              subst hjk
              have hu : ∀ x, (Value.slice sa j sc).ownBlock = some x → x < wa.heap.size := HU.out
              have hw : ∀ x, (Value.slice sa j sc).ownBlock = some x → w1.heap.size ≤ x := hblk.out
              have zy := hkb.size
              have zx := KX.out.size
              have S7 := hid (S6.out.kb (stab_net _ _) (stab_row _ _) hkb hu)
              have K7 := hid (K1.out.trans ((KB.out.trans' KX.out (fun i hi h => by have : wa.heap.size ≤ i := h; omega)).trans' hkb (fun i hi e => by have := hw i e; omega)))
              clear hkb hr S6 KX HU hblk hu hw RG KB K1
              obtain ⟨wo, rfl⟩ : ∃ wo : World, wo = wr := ⟨_, rfl⟩
              go_wp2_with fail
              go_loopw [11, 12, 13, 14, 15, 16, 17, 18] (fun kv _ _ _ _ _ _ _ wr => ∃ (i : Nat) (st : St), kv = .int .i64 i ∧ i ≤ n2 ∧ i ≤ 20 ∧ Hid (Sep wa.heap.size (NetP nb st) (RowP (.slice oa j oc) (gL gs)) wr) ∧ Kb (fun x => wa.heap.size ≤ x) wo wr ∧ Hid (PtS (grpOf (gL gs)) i st)) (fun kv _ _ _ _ _ _ _ _ => 20 - (intOf kv).toNat)
              case atStart => exact ⟨0, _, rfl, by omega, by omega, S7.out, Kb.refl _ _, rfl, rfl, rfl, rfl, rfl⟩
              case round =>
                obtain ⟨i, st, rfl, hi1, hi2, hsep, hkb, hst⟩ := hrel
                have zk := hkb.size
                by_cases hlt : i < n2 ∧ i < 20
                · obtain ⟨hlt1, hlt2⟩ := hlt
                  obtain ⟨g, o, rfl, hg, hc0, hc1, hb1, hb2, hb3, hb4⟩ := HL.out.2.2 i hlt1
                  have c0 := hkb.cell (K7.out.cell hc0 (by simp)) (by show ¬ wa.heap.size ≤ g; omega)
                  have c1 := hkb.cell (K7.out.cell hc1 (by simp)) (by show ¬ wa.heap.size ≤ g; omega)
                  generalize l[i]! = p at *
                  obtain ⟨f, t⟩ := p
                  have hgl : g < wr.heap.size := World.block_lt_of_cell? wr _ c0
                  simp only at c0 c1 hb1 hb2 hb3 hb4
                  have e1 : IntKind.u8.wrap (f % 10) = f % 10 := IntWalk.u8_in _ (by omega)
                  have e2 : IntKind.u8.wrap (t % 10) = t % 10 := IntWalk.u8_in _ (by omega)
                  have hcl : ∀ q : Nat, q < j → ∃ g, oa = some ⟨g, 0, none⟩ ∧ wr.cell? ⟨g, q, none⟩ = some (.int .i64 (gL gs)[q]!) ∧ g < wr.heap.size := by
                    intro q hq
                    obtain ⟨_, T, _, ⟨hr, _⟩, _⟩ := hsep.out
                    rcases hr.slice with ⟨h0, h1⟩ | ⟨g, c', h0, h1⟩
                    · have h2 := HKL.out
                      rw [h1] at h2
                      simp only [List.length_nil] at h2
                      omega
                    · rw [HKL.out] at h0
                      simp only [Value.slice.injEq] at h0
                      obtain ⟨rfl, _, rfl⟩ := h0
                      rw [← HKL.out] at hr
                      exact ⟨g, rfl, hr.cell q (by rw [HKL.out]; exact hq), h1⟩
                  have HC := hid hcl
                  clear hcl hc0 hc1
                  go_wp2_with fail
                  go_quiet (fail)
                  have kq : Kb (fun _ => False) wr (wr.drewN nq) := Kb.ofDrewN _ _ _
                  have SQ := hid (hsep.out.kb0 (stab_net _ _) (stab_row _ _) kq)
                  have KQ := hid (hkb.trans (kq.mono (T := fun x => wa.heap.size ≤ x) (fun _ _ x => x.elim)))
                  have HC := hid (show ∀ q : Nat, q < j → ∃ g, oa = some ⟨g, 0, none⟩ ∧ (wr.drewN nq).cell? ⟨g, q, none⟩ = some (.int .i64 (gL gs)[q]!) ∧ g < (wr.drewN nq).heap.size from fun q hq => by
                    obtain ⟨g, h1, h2, h3⟩ := HC.out q hq
                    exact ⟨g, h1, kq.cell h2 (by simp), h3⟩)
                  have zq := kq.size
                  clear kq hsep hkb
                  generalize wr.drewN nq = wq at *
                  go_upto_if 82 with fail
                  go_cut [14] (fun av wx => av = .int .i64 (grpOf (gL gs) (f % 10)) ∧ wx = wq)
                  case first =>
                    by_cases hf : f % 10 < (j : Int)
                    · obtain ⟨g', rfl, hc, hg'⟩ := HC.out (f % 10).toNat (by omega)
                      go_wp2_with fail
                      go_meet
                      refine ⟨?_, rfl⟩
                      unfold grpOf
                      rw [if_pos (by rw [HKL.out]; omega), List.getElem!_eq_getElem?_getD]
                      rfl
                    · have hf2 : (j : Int) ≤ f % 10 := by omega
                      go_wp2_with fail
                      go_meet
                      refine ⟨?_, rfl⟩
                      unfold grpOf
                      rw [if_neg (by rw [HKL.out]; omega)]
                  case rest =>
                    obtain ⟨rfl, rfl⟩ := hcut
                    go_upto_if 90 with fail
                    go_cut [15] (fun av wx => av = .int .i64 (grpOf (gL gs) (t % 10)) ∧ wx = wc)
                    case first =>
                      by_cases hf : t % 10 < (j : Int)
                      · obtain ⟨g', rfl, hc, hg'⟩ := HC.out (t % 10).toNat (by omega)
                        go_wp2_with fail
                        go_meet
                        refine ⟨?_, rfl⟩
                        unfold grpOf
                        rw [if_pos (by rw [HKL.out]; omega), List.getElem!_eq_getElem?_getD]
                        rfl
                      · have hf2 : (j : Int) ≤ t % 10 := by omega
                        go_wp2_with fail
                        go_meet
                        refine ⟨?_, rfl⟩
                        unfold grpOf
                        rw [if_neg (by rw [HKL.out]; omega)]
                    case rest =>
                      obtain ⟨rfl, rfl⟩ := hcut
                      obtain ⟨p1, p2, p3, p4, p5⟩ := hst.out
                      have hps := pt_send st i (grpOf (gL gs)) (f % 10) (t % 10) p1 p2 p3 p5 (by omega) (by omega)
                      have HP1 := hid p1
                      have HP2 := hid p2
                      have HP4 := hid p4
                      have HP5 := hid p5
                      have hnx : Hid ((sendS st i ⟨f % 10, t % 10, ⟨#[]⟩⟩).script = [] ∧ (sendS st i ⟨f % 10, t % 10, ⟨#[]⟩⟩).nodes = 8 ∧ (sendS st i ⟨f % 10, t % 10, ⟨#[]⟩⟩).grp = grpOf (gL gs) ∧ (sendS st i ⟨f % 10, t % 10, ⟨#[]⟩⟩).sent = i + 1) :=
                        ⟨by rw [sendS_script, p1], by rw [sendS_nodes, p2], by rw [sendS_grp, p3], by rw [sendS_sent, p4]⟩
                      have zw := KQ.out.size
                      have HPS := hid hps
                      clear p1 p2 p3 p4 p5 hps HC hst
                      have z6 : wa.heap.size ≤ wc.heap.size := by omega
                      go_wp2_with fail
                      refine (sep_send (stab_row _ _) SQ.out z6 i (f % 10) (t % 10) ⟨#[]⟩ (by rw [HP1.out]; simp) (by rw [HP4.out]; omega) (by rw [HP5.out]; simp) (fun _ => ⟨by omega, by rw [HP1.out]; simp [trOf]⟩) (by rw [HP2.out]; omega)).mono ?_
                      rintro e w6 ⟨rfl, s6, k6⟩
                      have S8 := hid s6
                      have K8 := hid (KQ.out.trans k6)
                      have z8 := k6.size
                      clear s6 k6 SQ KQ HP1 HP2 HP4 HP5
                      generalize sendS st i ⟨f % 10, t % 10, ⟨#[]⟩⟩ = st2 at *
                      generalize f % 10 = f at *
                      generalize t % 10 = t at *
                      generalize hga : grpOf (gL gs) f = ga at *
                      generalize hgb : grpOf (gL gs) t = gb at *
                      rcases HPS.out with ⟨hw, hcs⟩ | ⟨hw, ht8, hcs⟩
                      · have HW := hid hw
                        clear hw HPS
                        have hpt : Hid (PtS (grpOf (gL gs)) (i + 1) st2) := ⟨hnx.out.1, hnx.out.2.1, hnx.out.2.2.1, hnx.out.2.2.2, HW.out⟩
                        have hall : Hid True := trivial
                        go_wp2_with fail
                        refine (sep_empty (stab_row _ _) S8.out HW.out).mono ?_
                        rintro e w7 ⟨rfl, s7, k7⟩
                        unfold noMsg
                        have S9 := hid (s7.kb0 (stab_net _ _) (stab_row _ _) ((Kb.refl _ _).alloc (.cells #[.int .i64 0, .int .i64 0, .string .empty] 31)))
                        have K9 := hid ((K8.out.trans (k7.mono (T := fun x => wa.heap.size ≤ x) (fun _ _ x => x.elim))).alloc (.cells #[.int .i64 0, .int .i64 0, .string .empty] 31))
                        clear s7 k7 S8 K8
                        rcases hcs with hcs | ⟨ht8, hf8, hne⟩
                        · go_wp2_with fail
                          refine ⟨⟨i + 1, st2, by go_num, by omega, by omega, S9.out, K9.out, hpt⟩, by simp [intOf]; omega⟩
                        · have hne2 : (ga == gb) = false := by rw [beq_eq_false_iff_ne]; exact hne
                          go_wp2_with fail
                          refine ⟨⟨i + 1, st2, by go_num, by omega, by omega, S9.out, K9.out, hpt⟩, by simp [intOf]; omega⟩
                      · obtain ⟨f1, t1, x1, tm, sn, hp⟩ : ∃ f t x tm sn, (popL st2.waiting)[0]! = ⟨f, t, x, tm, sn⟩ := ⟨_, _, _, _, _, rfl⟩
                        have HP := hid hp
                        have HW := hid hw
                        have hn0 : (nextS st2).waiting = [] := List.eq_nil_of_length_eq_zero (by rw [nextS_len, hw])
                        have hpt : Hid (PtS (grpOf (gL gs)) (i + 1) (nextS st2)) := ⟨hnx.out.1, hnx.out.2.1, hnx.out.2.2.1, hnx.out.2.2.2, hn0⟩
                        clear hw HPS hp hn0
                        go_wp2_with fail
                        refine (sep_next (stab_row _ _) S8.out (by omega) 0 HW.out (by omega) f1 t1 x1 tm sn HP.out).mono ?_
                        rintro e w7 ⟨rfl, s7, k7⟩
                        have S9 := hid (s7.kb0 (stab_net _ _) (stab_row _ _) ((Kb.refl _ _).alloc (.cells #[.int .i64 f1, .int .i64 t1, .string x1] 31)))
                        have K9 := hid ((K8.out.trans k7).alloc (.cells #[.int .i64 f1, .int .i64 t1, .string x1] 31))
                        clear s7 k7 S8 K8
                        rcases hcs with hcs | ⟨hf8, heq⟩
                        · go_wp2_with fail
                          refine ⟨⟨i + 1, nextS st2, by go_num, by omega, by omega, S9.out, K9.out, hpt⟩, by simp [intOf]; omega⟩
                        · rw [heq]
                          go_wp2_with fail
                          refine ⟨⟨i + 1, nextS st2, by go_num, by omega, by omega, S9.out, K9.out, hpt⟩, by simp [intOf]; omega⟩
                · obtain ⟨p1, p2, p3, p4, p5⟩ := hst.out
                  have HP1 := hid p1
                  have HP2 := hid p2
                  have HP4 := hid p4
                  have HP5 := hid p5
                  have SX := hid hsep.out
                  have KX := hid hkb
                  have z9 : wa.heap.size ≤ wr.heap.size := by omega
                  have hz : ∀ x, grpOf [] x = 0 := by
                    intro x
                    unfold grpOf
                    simp
                  have hq : drops (partS st []) ⟨0, 7, ⟨#[]⟩⟩ = false := by
                    unfold drops partS isNode
                    simp [hz, trOf, p1, p2]
                  have hw1 : (sendS (partS st []) 0 ⟨0, 7, ⟨#[]⟩⟩).waiting.length = 1 := by
                    unfold sendS
                    rw [hq]
                    simp [partS, pushK_length, p5, p1, trOf, copiesOf]
                    try rfl
                  have HW1 := hid hw1
                  have hend2 : i < n2 ∧ (20 : Int) ≤ i ∨ (n2 : Int) ≤ i := by omega
                  clear hq hz p1 p2 p3 p4 p5 hst hsep hkb hlt hw1
                  rcases hend2 with ⟨hend2, hi20⟩ | hend2
                  all_goals
                    go_wp2_with fail
                    refine (sep_part (stab_row _ _) SX.out z9 [] (.slice none 0 0) (Or.inl ⟨_, _, rfl, rfl⟩) (by intro g e; cases e) (by simp)).mono ?_
                    rintro e w6 ⟨rfl, s6, k6⟩
                    have z10 : wa.heap.size ≤ w6.heap.size := by have := k6.size; omega
                    have K8 := hid (KX.out.trans k6)
                    have S8 := hid s6
                    clear s6 k6 SX KX
                    go_wp2_with fail
                    refine (sep_send (stab_row _ _) S8.out z10 0 0 7 ⟨#[]⟩ (by (show st.script.length ≤ _); rw [HP1.out]; simp) (by (show st.sent ≤ _); rw [HP4.out]; omega) (by (show st.waiting.length ≤ _); rw [HP5.out]; simp) (fun _ => ⟨by omega, by (show (trOf st.script st.sent).delay ≤ _); rw [HP1.out]; simp [trOf]⟩) (by (show st.nodes ≤ _); rw [HP2.out]; omega)).mono ?_
                    rintro e w7 ⟨rfl, s7, k7⟩
                    have K9 := hid (K8.out.trans k7)
                    have S9 := hid s7
                    clear s7 k7 S8 K8
                    go_wp2_with fail
                    refine (sep_wait S9.out).mono ?_
                    rintro e w9 ⟨rfl, rfl⟩
                    rw [HW1.out]
                    go_wp2_with fail
                    go_ret
                    exact ⟨rfl, K7.out.trans' K9.out (fun i hi e => by have : wa.heap.size ≤ i := e; omega)⟩
end Go.Proofs.Ytibnpddmohjeoaa
