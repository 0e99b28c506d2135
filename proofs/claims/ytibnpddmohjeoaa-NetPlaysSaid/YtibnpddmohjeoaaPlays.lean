/- NetPlays: the walk. -/
import Derived.Test.YtibnpddmohjeoaaPsep
import Derived.Deep.DeepCutAuto
namespace Go.Proofs.Ytibnpddmohjeoaa
open Go.RowKit

/-- A call: its kind, its time, its message, and the groups. -/
structure Ac where
  kind : Int
  now : Int
  frm : Int
  to_ : Int
  text : ByteArray
  gv : Value
  gs : List Int
instance : Inhabited Ac := ⟨⟨0, 0, 0, 0, .empty, .slice none 0 0, []⟩⟩
def Ac.cells (a : Ac) : List Value := [.int .i64 a.kind, .int .i64 a.now, .int .i64 a.frm, .int .i64 a.to_, .string a.text, a.gv]
/-- A slice of calls that came in. -/
def ActsAt (w : World) (a : Option Addr) (n c : Nat) (l : List Ac) : Prop :=
  n ≤ c ∧ l.length = n ∧ ∀ i, i < n → ∃ g o, a = some ⟨g, o, none⟩ ∧ g < w.heap.size ∧ (∀ f, f < 6 → w.cell? ⟨g, o + (i * 6 + f), none⟩ = (l[i]!).cells[f]?) ∧ GroupsAt w w.heap.size (l[i]!).gv (l[i]!).gs ∧ (l[i]!).gs.length * 8 ≤ 140737488355328
theorem GroupsAt.mono' {w : World} {B B' : Nat} {v : Value} {gs : List Int} (h : GroupsAt w B v gs) (hB : B ≤ B') : GroupsAt w B' v gs := ⟨h.1, h.2.1, fun a g e => Nat.lt_of_lt_of_le (h.2.2 a g e) hB⟩
/-- The two nets side by side. -/
def Two (B nb mb : Nat) (w : World) (st : St) (rs : RS) : Prop := Sepx (fun x => B ≤ x) (NetP nb st) (RefP mb rs) w

set_option maxHeartbeats 4000000 in
set_option maxRecDepth 100000 in
theorem plays_any (nd : Int) (v : Value) (l : List Tr) (a : Option Addr) (n c : Nat) (acts : List Ac) (w : World) (hnd : 0 ≤ nd ∧ nd ≤ 255) (hl : l.length ≤ 9223372036854775807) (h : TrsAt w v l) (hv : ∀ g, v.ownBlock = some g → g < w.heap.size) (hn : n ≤ 9223372036854775807) (hu : ActsAt w a n c acts) :
    Calls Try.prog 3 #[.int .u8 nd, v, .slice a n c] w fun e w' => e = .returned (.bool true) ∧ Kb (fun _ => False) w w' := by
  have HT := hid h
  have HV := hid hv
  have HU := hid hu
  have hnc := hu.1
  obtain ⟨hnd1, hnd2⟩ := hnd
  have e1 : IntKind.u8.wrap (nd % 7) = nd % 7 := IntWalk.u8_in _ (by omega)
  have e2 : 0 ≤ nd % 7 ∧ nd % 7 ≤ 6 := by omega
  obtain ⟨e3, e4⟩ := e2
  clear h hv hu
  go_enter Try.func3, Try.ntmps3
  go_wp2_with fail
  refine (sanity_any w).mono ?_
  rintro e w1 ⟨rfl, k1⟩
  have zk1 := k1.size
  go_wp2_with fail
  refine (script_any v l w1 hl (HT.out.kb k1 (fun _ _ => by simp)) (fun g e => by have := HV.out g e; omega)).mono ?_
  rintro e w2 ⟨sv, rfl, k2, r2, o2⟩
  have zk2 := k2.size
  have K2 := hid (k1.trans k2)
  have R2 := hid r2
  have hsl : (scriptL l).length ≤ 12 := by rw [scriptL_length]; omega
  clear k1 k2 HT HV
  go_wp2_with fail
  refine (new_any (nd % 7 - 1) sv _ w2 (by omega) r2).mono ?_
  rintro e w3 ⟨nb, rfl, k3, n3⟩
  have zk3 := k3.size
  have N3 := hid n3
  have K3 := hid k3
  have R3 := hid (R2.out.kb k3 (fun _ _ => by simp))
  clear n3 k3 r2 o2
  have hw0 : w.heap.size ≤ w1.heap.size := zk1
  go_wp2_with fail
  refine (rnew_any (nd % 7 - 1) sv _ w3 (by omega) R3.out).mono ?_
  rintro e w5 ⟨mb, rfl, k5, n5⟩
  have zk5 := k5.size
  have S5 : Hid (Two w2.heap.size nb mb w5 (newS (nd % 7 - 1) (scriptL l)) ⟨nd % 7 - 1, scriptL l, [], 0, []⟩) :=
    (Sep.mk (B := w2.heap.size) (stab_net _ _) (stab_ref _ _) (S := fun x => w2.heap.size ≤ x ∧ x < w3.heap.size) (w := w3) (NetIs.old N3.out) (fun x hx => by omega) (by omega) k5 n5).sepx (fun x hx _ => hx)
  have K5 := hid ((K2.out.trans K3.out).trans k5)
  have kz : w.heap.size ≤ w2.heap.size := by omega
  clear k5 n5 N3 K3 K2 R2 R3
  go_wp2_with fail
  go_loopw [11, 12, 13, 14, 15, 16, 17, 18] (fun kv _ _ _ _ _ _ _ wr => ∃ (j : Nat) (st : St) (rs : RS), kv = .int .i64 j ∧ j ≤ n ∧ j ≤ 60 ∧ Hid (Two w2.heap.size nb mb wr st rs) ∧ Kb (fun x => w2.heap.size ≤ x) w5 wr ∧
      Hid (Rel st rs ∧ st.nodes = nd % 7 - 1 ∧ st.script = scriptL l ∧ st.sent ≤ j ∧ st.waiting.length ≤ 8 * j ∧ rs.gs.length ≤ 9223372036854775807)) (fun kv _ _ _ _ _ _ _ _ => 60 - (intOf kv).toNat)
  case atStart => exact ⟨0, _, _, rfl, by omega, by omega, S5.out, Kb.refl _ _, rel_new _ _, rfl, rfl, Nat.le_refl _, by simp [newS], by simp⟩
  case round =>
    obtain ⟨j, st, rs, rfl, hj1, hj2, hsep, hkb, hst⟩ := hrel
    have zr := hkb.size
    by_cases hlt : j < n ∧ j < 60
    · obtain ⟨hlt1, hlt2⟩ := hlt
      obtain ⟨g, o, rfl, hg, hc, hgr, hgl⟩ := HU.out.2.2 j hlt1
      generalize acts[j]! = ac at *
      obtain ⟨kd, nw, f, t, x, gv, gs⟩ := ac
      simp only [Ac.cells] at hc hgr hgl
      have c0 := hkb.cell (v := .int .i64 kd) (K5.out.cell (hc 0 (by omega)) (by simp)) (by show ¬ w2.heap.size ≤ g; omega)
      have c1 := hkb.cell (v := .int .i64 nw) (K5.out.cell (hc 1 (by omega)) (by simp)) (by show ¬ w2.heap.size ≤ g; omega)
      have c2 := hkb.cell (v := .int .i64 f) (K5.out.cell (hc 2 (by omega)) (by simp)) (by show ¬ w2.heap.size ≤ g; omega)
      have c3 := hkb.cell (v := .int .i64 t) (K5.out.cell (hc 3 (by omega)) (by simp)) (by show ¬ w2.heap.size ≤ g; omega)
      have c4 := hkb.cell (v := .string x) (K5.out.cell (hc 4 (by omega)) (by simp)) (by show ¬ w2.heap.size ≤ g; omega)
      have c5 := hkb.cell (v := gv) (K5.out.cell (hc 5 (by omega)) (by simp)) (by show ¬ w2.heap.size ≤ g; omega)
      simp only [Nat.add_zero, ← Nat.add_assoc] at c0 c1 c2 c3 c4 c5
      have hgl0 : g < wr.heap.size := World.block_lt_of_cell? wr _ c0
      have hgr2 : GroupsAt wr w2.heap.size gv gs := by
        have h1 := (hgr.kb K5.out (fun _ x => x.elim)).mono' kz
        exact h1.kb hkb (fun x hx => hx)
      obtain ⟨ga, gn, gc, rfl⟩ : ∃ a n c, gv = .slice a n c := by
        rcases hgr2.2.1 with rfl | ⟨ad, n, c, rfl⟩
        · exact ⟨_, _, _, rfl⟩
        · exact ⟨_, _, _, rfl⟩
      have HGR := hid hgr2
      clear hc hgr hgr2
      go_upto_region 9 with fail
      generalize hWA : World.alloc _ _ = wA
      have kA : Kb (fun _ => False) wr wA := by subst hWA; exact (Kb.refl _ _).alloc _
      have SA : Hid (Sepx (fun x => w2.heap.size ≤ x ∧ x ≠ wr.heap.size) (NetP nb st) (RefP mb rs) wA) := by subst hWA; exact Sepx.alloc hsep.out (stab_net _ _) (stab_ref _ _) _
      have BA : wA.heap[wr.heap.size]? = some (.cells #[.int .i64 kd, .int .i64 nw, .int .i64 f, .int .i64 t, .string x, .slice ga gn gc] 34 (0, 0)) := by subst hWA; exact heap_alloc_new wr _
      have hp0 : w2.heap.size ≤ wr.heap.size := by omega
      have zA := kA.size
      have KA := hid (hkb.trans (kA.mono (T := fun x => w2.heap.size ≤ x) (fun _ _ x => x.elim)))
      have GA := hid (HGR.out.kb kA (fun _ x => x.elim))
      have hpA : wr.heap.size < wA.heap.size := block_lt BA
      clear hWA kA hsep hkb HGR c0 c1 c2 c3 c4 c5
      generalize wr.heap.size = pb at *
      have HBA := hid BA
      have c0 := cell_of_heap BA 0
      have c1 := cell_of_heap BA 1
      have c2 := cell_of_heap BA 2
      have c3 := cell_of_heap BA 3
      have c4 := cell_of_heap BA 4
      have c5 := cell_of_heap BA 5
      simp only [List.getElem?_toArray, List.getElem?_cons_succ, List.getElem?_cons_zero] at c0 c1 c2 c3 c4 c5
      clear BA
      have HJ := hst
      obtain ⟨hrel, hno, hscr, hse, hwa, hgs⟩ := hst.out
      have hsc : st.script.length ≤ 12 := by rw [hscr]; exact hsl
      have hde : (trOf st.script st.sent).delay ≤ 100000 := by rw [hscr]; exact trOf_delay l st.sent
      have hrsc : rs.script.length ≤ 12 := by rw [← hrel.script]; exact hsc
      have hrde : (trOf rs.script rs.sent).delay ≤ 100000 := by rw [← hrel.script, ← hrel.sent]; exact hde
      have hrse : rs.sent ≤ j := by rw [← hrel.sent]; exact hse
      have hrl : rs.l.length ≤ 8 * j := by rw [← hrel.perm.length_eq]; exact hwa
      have HNO := hid hno
      have HRL := hid hrel
      clear hno hscr hst hrel
      go_upto_if 51 with fail
      go_cut [13, 14, 15, 16, 17, 18] (fun _ _ _ _ _ _ wx => ∃ st' rs', Hid (Two w2.heap.size nb mb wx st' rs') ∧ Hid (Kb (fun x => w2.heap.size ≤ x) w5 wx) ∧
        Hid (Rel st' rs' ∧ st'.nodes = nd % 7 - 1 ∧ st'.script = scriptL l ∧ st'.sent ≤ j + 1 ∧ st'.waiting.length ≤ 8 * (j + 1) ∧ rs'.gs.length ≤ 9223372036854775807))
      case first =>
        have hDx : ∀ x, wA.heap.size ≤ x → w2.heap.size ≤ x ∧ x ≠ pb := fun x hx => ⟨by omega, by omega⟩
        have HDX := hid hDx
        have hnw1 : nw.tmod 1000000 < 1000000 := Int.tmod_lt_of_pos _ (by omega)
        have hnw2 : -1000000 < nw.tmod 1000000 := by
          have := Int.lt_tmod_of_pos nw (show (0 : Int) < 1000000 by omega)
          omega
        clear hDx
        go_wp2_with fail
        · generalize hnow : nw.tmod 1000000 = now at *
          have HNOW := hid hnow
          clear hnow
          refine (sepx_send (stab_ref _ _) SA.out HDX.out now f t x (by omega) (by omega) (by omega) (fun _ => ⟨by omega, by omega⟩) (by rw [HNO.out]; omega)).mono ?_
          rintro e w7 ⟨rfl, s7, k7⟩
          have z7 := k7.size
          have B7 := k7.heap HBA.out (by rintro ⟨_, h⟩; exact h rfl)
          have c0 := cell_of_heap B7 0
          have c1 := cell_of_heap B7 1
          have c2 := cell_of_heap B7 2
          have c3 := cell_of_heap B7 3
          have c4 := cell_of_heap B7 4
          have c5 := cell_of_heap B7 5
          simp only [List.getElem?_toArray, List.getElem?_cons_succ, List.getElem?_cons_zero] at c0 c1 c2 c3 c4 c5
          have hp7 : pb < w7.heap.size := block_lt B7
          have S7 := hid s7.swap
          have K7 := hid (KA.out.trans (k7.mono (T := fun x => w2.heap.size ≤ x) (fun x _ hx => hx.1)))
          clear s7 k7 B7 SA KA
          go_wp2_with fail
          rw [HNOW.out]
          refine (rsep_send (stab_net _ _) S7.out (fun x hx => ⟨by omega, by omega⟩) now f t x (by omega) (by omega) (by omega) ⟨by omega, by omega⟩ (by omega) hgs).mono ?_
          rintro e w8 ⟨rfl, s8, k8⟩
          have S8 := hid s8.swap
          have K8 := hid (K7.out.trans (k8.mono (T := fun x => w2.heap.size ≤ x) (fun x _ hx => hx.1)))
          clear s8 k8 S7 K7
          go_wp2_with fail
          go_meet
          refine ⟨_, _, Sepx.mono S8.out (fun x hx => hx.1), K8.out, rel_send HRL.out _ _, ?_, ?_, ?_, ?_, ?_⟩
          · rw [sendS_nodes]; exact HJ.out.2.1
          · rw [sendS_script]; exact HJ.out.2.2.1
          · rw [sendS_sent]; omega
          · have := sendS_len st now ⟨f, t, x⟩; omega
          · have e : (rsendS rs now ⟨f, t, x⟩).gs = rs.gs := by unfold rsendS; split <;> rfl
            rw [e]; exact hgs
        · refine (gsep_part (B := w2.heap.size) (stab_ref _ _) SA.out HDX.out (fun x hx => hx.1) (by omega) gs _ GA.out (by omega)).mono ?_
          rintro e w7 ⟨rfl, s7, k7⟩
          have z7 := k7.size
          have B7 := k7.heap HBA.out (by rintro ⟨_, h⟩; exact h rfl)
          have c0 := cell_of_heap B7 0
          have c1 := cell_of_heap B7 1
          have c2 := cell_of_heap B7 2
          have c3 := cell_of_heap B7 3
          have c4 := cell_of_heap B7 4
          have c5 := cell_of_heap B7 5
          simp only [List.getElem?_toArray, List.getElem?_cons_succ, List.getElem?_cons_zero] at c0 c1 c2 c3 c4 c5
          have hp7 : pb < w7.heap.size := block_lt B7
          have S7 := hid s7.swap
          have K7 := hid (KA.out.trans (k7.mono (T := fun x => w2.heap.size ≤ x) (fun x _ hx => hx.1)))
          have G7 := hid (GA.out.kb k7 (fun x hx => hx.1))
          clear s7 k7 B7 SA KA GA
          go_wp2_with fail
          refine (rsep_part (B := w2.heap.size) (stab_net _ _) S7.out (fun x hx => ⟨by omega, by omega⟩) gs _ G7.out hgl).mono ?_
          rintro e w8 ⟨rfl, s8, k8⟩
          have S8 := hid s8.swap
          have K8 := hid (K7.out.trans (k8.mono (T := fun x => w2.heap.size ≤ x) (fun x _ hx => hx.1)))
          clear s8 k8 S7 K7
          go_wp2_with fail
          go_meet
          exact ⟨_, _, Sepx.mono S8.out (fun x hx => hx.1), K8.out, rel_part HRL.out gs, HJ.out.2.1, HJ.out.2.2.1, by show st.sent ≤ j + 1; omega, by show st.waiting.length ≤ _; omega, by show gs.length ≤ _; omega⟩
        · by_cases h0 : st.waiting.length = 0
          · have h00 : st.waiting = [] := List.eq_nil_of_length_eq_zero h0
            have h01 : rs.l = [] := by have := HRL.out.perm; rw [h00] at this; exact this.symm.eq_nil
            have H00 := hid h00
            have H01 := hid h01
            clear h0 h00 h01
            refine (sepx_empty (stab_ref _ _) SA.out H00.out).mono ?_
            rintro e w7 ⟨rfl, s7, k7⟩
            unfold noMsg
            have z7 := k7.size
            have S7 := hid s7.swap
            have K7 := hid (KA.out.trans (k7.mono (T := fun x => w2.heap.size ≤ x) (fun _ _ x => x.elim)))
            clear s7 k7 SA KA c0 c1 c2 c3 c4 c5
            go_wp2_with fail
            generalize hW8 : World.alloc _ _ = w8
            have k8 : Kb (fun _ => False) w7 w8 := by subst hW8; exact (Kb.refl _ _).alloc _
            have B8 : w8.heap[w7.heap.size]? = some (.cells #[.int .i64 0, .int .i64 0, .string .empty] 31 (0, 0)) := by subst hW8; exact heap_alloc_new w7 _
            have S8 := hid (S7.out.kb0 (stab_ref _ _) (stab_net _ _) k8)
            have K8 := hid (K7.out.trans (k8.mono (T := fun x => w2.heap.size ≤ x) (fun _ _ x => x.elim)))
            have HB8 := hid B8
            have z8 := k8.size
            clear hW8 k8 B8 S7 K7
            generalize w7.heap.size = qb at *
            refine (rsep_empty (stab_net _ _) S8.out H01.out).mono ?_
            rintro e w9 ⟨rfl, s9, k9⟩
            unfold noMsg
            have S9 := hid s9.swap
            have K9 := hid (K8.out.trans (k9.mono (T := fun x => w2.heap.size ≤ x) (fun _ _ x => x.elim)))
            have B9 := k9.heap HB8.out (by simp)
            have b0 := cell_of_heap B9 0
            have b1 := cell_of_heap B9 1
            have b2 := cell_of_heap B9 2
            simp only [List.getElem?_toArray, List.getElem?_cons_succ, List.getElem?_cons_zero] at b0 b1 b2
            have hq9 : qb < w9.heap.size := block_lt B9
            clear s9 k9 S8 K8 B9 HB8
            go_wp2_with fail
            go_meet
            exact ⟨st, rs, (S9.out.kb0 (stab_net _ _) (stab_ref _ _) ((Kb.refl _ _).alloc _)).mono (fun x hx => hx.1), K9.out.alloc _, HRL.out, HJ.out.2.1, HJ.out.2.2.1, by omega, by omega, hgs⟩
          · obtain ⟨n1, hn1⟩ : ∃ n1, st.waiting.length = n1 + 1 := ⟨st.waiting.length - 1, by omega⟩
            obtain ⟨p, q1, q2, q3, q4⟩ := rel_next HRL.out n1 hn1
            obtain ⟨pf, pt, px, ptm, ps⟩ := p
            have HN1 := hid hn1
            have Q1 := hid q1
            have Q2 := hid q2
            have Q3 := hid q3
            have Q4 := hid q4
            have hn2 : n1 + 1 ≤ 8 * j := by omega
            clear h0 hn1 q1 q2 q3 q4
            refine (sepx_next (stab_ref _ _) SA.out HDX.out n1 HN1.out (by omega) pf pt px ptm ps Q1.out).mono ?_
            rintro e w7 ⟨rfl, s7, k7⟩
            have z7 := k7.size
            have S7 := hid s7.swap
            have K7 := hid (KA.out.trans (k7.mono (T := fun x => w2.heap.size ≤ x) (fun x _ hx => hx.1)))
            clear s7 k7 SA KA c0 c1 c2 c3 c4 c5
            go_wp2_with fail
            generalize hW8 : World.alloc _ _ = w8
            have k8 : Kb (fun _ => False) w7 w8 := by subst hW8; exact (Kb.refl _ _).alloc _
            have B8 : w8.heap[w7.heap.size]? = some (.cells #[.int .i64 pf, .int .i64 pt, .string px] 31 (0, 0)) := by subst hW8; exact heap_alloc_new w7 _
            have S8 : Hid (Sepx (fun x => (w2.heap.size ≤ x ∧ x ≠ pb) ∧ x ≠ w7.heap.size) (RefP mb rs) (NetP nb (nextS st)) w8) := by subst hW8; exact Sepx.alloc S7.out (stab_ref _ _) (stab_net _ _) _
            have K8 := hid (K7.out.trans (k8.mono (T := fun x => w2.heap.size ≤ x) (fun _ _ x => x.elim)))
            have HB8 := hid B8
            have z8 := k8.size
            have hq8 : w7.heap.size < w8.heap.size := block_lt B8
            clear hW8 k8 B8 S7 K7
            generalize w7.heap.size = qb at *
            refine (rsep_next (stab_net _ _) S8.out (fun x hx => ⟨⟨by omega, by omega⟩, by omega⟩) n1 Q3.out (by omega) pf pt px ptm ps Q2.out).mono ?_
            rintro e w9 ⟨rfl, s9, k9⟩
            have S9 := hid s9.swap
            have K9 := hid (K8.out.trans (k9.mono (T := fun x => w2.heap.size ≤ x) (fun x _ hx => hx.1.1)))
            have B9 := k9.heap HB8.out (by rintro ⟨_, h⟩; exact h rfl)
            have b0 := cell_of_heap B9 0
            have b1 := cell_of_heap B9 1
            have b2 := cell_of_heap B9 2
            simp only [List.getElem?_toArray, List.getElem?_cons_succ, List.getElem?_cons_zero] at b0 b1 b2
            have hq9 : qb < w9.heap.size := block_lt B9
            clear s9 k9 S8 K8 B9 HB8
            go_wp2_with fail
            go_meet
            refine ⟨_, _, (S9.out.kb0 (stab_net _ _) (stab_ref _ _) ((Kb.refl _ _).alloc _)).mono (fun x hx => hx.1.1), K9.out.alloc _, Q4.out, HJ.out.2.1, HJ.out.2.2.1, by show st.sent ≤ _; omega, by rw [nextS_len]; omega, hgs⟩
      case rest =>
        obtain ⟨st', rs', S9, K9, J9⟩ := hcut
        have S9' : Hid (Sepx (fun x => w2.heap.size ≤ x) (NetP nb st') (RefP mb rs') wc) := S9
        go_wp2_with fail
        refine (sepx_wait S9'.out).mono ?_
        rintro e w10 ⟨rfl, rfl⟩
        go_wp2_with fail
        refine (rsep_wait S9'.out.swap).mono ?_
        rintro e w11 ⟨rfl, rfl⟩
        rw [← J9.out.1.perm.length_eq]
        go_wp2_with fail
        go_roundw
        case rel => exact ⟨j + 1, st', rs', by go_num, by omega, by omega, S9.out, K9.out, J9.out⟩
        case measure => simp [intOf]; omega
    · have hend : j < n ∧ (60 : Int) ≤ j ∨ (n : Int) ≤ j := by omega
      clear hlt
      rcases hend with ⟨hend, hj60⟩ | hend
      all_goals
        go_wp2_with fail
        go_ret
        exact ⟨rfl, K5.out.trans' hkb (fun i hi e => by have : w2.heap.size ≤ i := e; omega)⟩
end Go.Proofs.Ytibnpddmohjeoaa
