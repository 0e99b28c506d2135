/- The walk of the law's own sanity. -/
import Derived.Test.YtibnpddmohjeoaaPop
namespace Go.Proofs.Ytibnpddmohjeoaa
open Go.RowKit

def sanTr : List Tr := [⟨false, 0, 5⟩, ⟨true, 0, 0⟩, ⟨false, 2, 0⟩]
def sanT (k : Nat) : Int := if k = 0 then 10 else if k = 1 then 11 else 12
def sanA : Nat → St
  | 0 => newS 2 sanTr
  | k + 1 => sendS (sanA k) (sanT k) ⟨k, 1, .empty⟩
def sanB : Nat → St
  | 0 => sanA 4
  | k + 1 => nextS (sanB k)
def wantF (k : Nat) : Int := if k = 0 then 2 else if k = 1 then 2 else if k = 2 then 0 else 3
def wantT (k : Nat) : Int := if k = 0 then 12 else if k = 1 then 13 else if k = 2 then 15 else 17
def sanP (k : Nat) : Pc := (popL (sanB k).waiting)[3 - k]!
def sanC : St := sendS (sanB 4) 0 ⟨0, 2, .empty⟩
def sanD : St := sendS (partS sanC [1, 2]) 0 ⟨0, 1, .empty⟩
def sanE : St := sendS sanD 0 ⟨7, 1, .empty⟩
theorem sanA_ok : ∀ k, k < 4 → (sanA k).script.length = 3 ∧ (sanA k).sent = k ∧ (sanA k).waiting.length ≤ 4 ∧ (trOf (sanA k).script (sanA k).sent).delay ≤ 5 ∧ (sanA k).nodes = 2 := by decide
theorem sanA_4 : (sanB 0).waiting.length = 4 := by decide
theorem sanB_ok : ∀ k, k < 4 → (sanB k).waiting.length = 3 - k + 1 ∧ (sanP k).frm = wantF k ∧ (sanP k).tm = wantT k := by decide
theorem sanB_4 : (sanB 4).waiting = [] := by rfl
theorem sanC_ok : sanC.waiting.length = 0 ∧ sanD.waiting.length = 0 ∧ sanE.waiting.length = 1 := by decide
theorem sanB4_ok : (sanB 4).script.length = 3 ∧ (sanB 4).sent = 4 ∧ (sanB 4).waiting.length = 0 ∧ (trOf (sanB 4).script (sanB 4).sent).delay ≤ 5 ∧ (sanB 4).nodes = 2 := by decide
theorem sanC2_ok : (partS sanC [1, 2]).script.length = 3 ∧ (partS sanC [1, 2]).sent = 5 ∧ (partS sanC [1, 2]).waiting.length = 0 ∧ (trOf (partS sanC [1, 2]).script (partS sanC [1, 2]).sent).delay ≤ 5 ∧ (partS sanC [1, 2]).nodes = 2 := by decide
theorem sanD_ok : sanD.script.length = 3 ∧ sanD.sent = 6 ∧ sanD.waiting.length = 0 ∧ (trOf sanD.script sanD.sent).delay ≤ 5 ∧ sanD.nodes = 2 := by decide

set_option maxHeartbeats 4000000 in
set_option maxRecDepth 100000 in
theorem sanity_any (w : World) : Calls Try.prog 11 #[] w fun e w' => e = .returned (.bool true) ∧ Kb (fun _ => False) w w' := by
  go_enter Try.func11, Try.ntmps11
  go_wp2_with fail
  generalize hW : World.alloc _ _ = W
  have r0 : RowT W (.slice (some ⟨w.heap.size, 0, none⟩) 3 3) sanTr := by
    subst hW
    have h := World.ownsRow_lit (base := 0) (e := 44) (size := 3) w #[.bool false, .int .i64 0, .int .i64 5, .bool true, .int .i64 0, .int .i64 0, .bool false, .int .i64 2, .int .i64 0] 3 (Nat.zero_le _) (by decide) rfl
    exact h
  have kW : Kb (fun _ => False) w W := by subst hW; exact (Kb.refl _ _).alloc _
  clear hW
  refine (new_any 2 _ sanTr W (by decide) r0).mono ?_
  rintro e w1 ⟨b, rfl, k1, n1⟩
  have K1 := kW.trans k1
  have N1 := n1.old
  have hWs := K1.size
  have hWW := kW.size
  clear r0 n1 k1 kW
  go_wp2_with fail
  generalize hW2 : World.alloc _ _ = W2
  have T2 : W2.heap[w1.heap.size]? = some (.cells #[.int .i64 10, .int .i64 11, .int .i64 12, .int .i64 12] 3 (0, 0)) := by subst hW2; exact heap_alloc_new w1 _
  have N2 : NetIs (fun x => w.heap.size ≤ x ∧ x < w1.heap.size) b W2 (sanA 0) := by
    subst hW2
    have h1 : w.heap.size ≤ W.heap.size := by assumption
    exact (N1.mono (fun x hx => ⟨by omega, hx.2⟩)).kb (T := fun _ => False) ((Kb.refl _ _).alloc _) (fun _ _ x => x)
  have K2 : Kb (fun _ => False) w W2 := by subst hW2; exact K1.alloc _
  clear hW2 N1 K1
  generalize w1.heap.size = tb at *
  have htm : ∀ k, k < 4 → W2.cell? ⟨tb, k, none⟩ = some (.int .i64 (sanT k)) := by
    intro k hk
    rw [cell_of_heap T2]
    have : k = 0 ∨ k = 1 ∨ k = 2 ∨ k = 3 := by omega
    rcases this with rfl | rfl | rfl | rfl <;> rfl
  have HTM := hid htm
  have HN2 := hid N2
  have HK2 := hid K2
  clear htm T2 N2 K2
  go_loopw [3] (fun kv wr => ∃ (k : Nat) (S : Nat → Prop), kv = .int .i64 k ∧ k ≤ 4 ∧ Kb (fun x => w.heap.size ≤ x ∧ x ≠ tb) W2 wr ∧ Hid (∀ x, S x → w.heap.size ≤ x ∧ x ≠ tb) ∧ NetIs S b wr (sanA k)) (fun kv _ => 4 - (intOf kv).toNat)
  case atStart => exact ⟨0, _, rfl, by omega, Kb.refl _ _, fun x hx => ⟨hx.1, by omega⟩, HN2.out⟩
  case round =>
    obtain ⟨k, S, rfl, hk, hkb, hS, hnet⟩ := hrel
    by_cases hlt : k < 4
    · have hc := hkb.cell (HTM.out k hlt) (by simp)
      obtain ⟨a1, a2, a3, a4, a5⟩ := sanA_ok k hlt
      have ht : -1000000000000 ≤ sanT k ∧ sanT k ≤ 1000000000000 := by unfold sanT; split <;> (try split) <;> omega
      have ht1 := ht.1
      have ht2 := ht.2
      go_wp2_with fail
      refine (send_at S b (sanA k) _ _ _ _ wr hnet (by omega) (by omega) (by omega) (fun _ => ⟨ht, by omega⟩) (by omega)).mono ?_
      rintro e w2 ⟨rfl, S', h1, h2, h3⟩
      have htb : tb < wr.heap.size := World.block_lt_of_cell? wr _ hc
      have hws : w.heap.size ≤ wr.heap.size := by omega
      have H3 := hid h3
      have H1 := hid h1
      clear h3 h1
      go_wp2_with fail
      go_roundw
      case rel =>
        refine ⟨k + 1, S', by go_num, by omega, hkb.trans' h2 (fun i _ hi => hS.out i hi), ?_, H3.out⟩
        intro x hx
        rcases H1.out x hx with h | h
        · exact hS.out x h
        · constructor <;> omega
      case measure => simp [intOf]; omega
    · have hk4 : k = 4 := by omega
      subst hk4
      clear hlt
      have HNB : Hid (NetIs S b wr (sanB 0)) := hnet
      have HKA := hid (HK2.out.trans' hkb (fun i hi h => by omega))
      clear hkb hnet hk
      go_wp2_with fail
      generalize hW3 : World.alloc _ _ = W3
      have U3 : W3.heap[wr.heap.size]? = some (.cells #[.int .i64 2, .int .i64 12, .int .i64 2, .int .i64 13, .int .i64 0, .int .i64 15, .int .i64 3, .int .i64 17] 63 (0, 0)) := by subst hW3; exact heap_alloc_new wr _
      have N3 : NetIs (fun x => w.heap.size ≤ x ∧ x < wr.heap.size) b W3 (sanB 0) := by
        subst hW3
        exact (HNB.out.old.mono (fun x hx => ⟨(hS.out x hx.1).1, hx.2⟩)).kb (T := fun _ => False) ((Kb.refl _ _).alloc _) (fun _ _ x => x)
      have K3 : Kb (fun _ => False) w W3 := by subst hW3; exact HKA.out.alloc _
      have hws : w.heap.size ≤ wr.heap.size := HKA.out.size
      clear hW3
      generalize wr.heap.size = ub at *
      have hu : ∀ k, k < 4 → W3.cell? ⟨ub, k * 2, none⟩ = some (.int .i64 (wantF k)) ∧ W3.cell? ⟨ub, k * 2 + 1, none⟩ = some (.int .i64 (wantT k)) := by
        intro k hk
        rw [cell_of_heap U3, cell_of_heap U3]
        have : k = 0 ∨ k = 1 ∨ k = 2 ∨ k = 3 := by omega
        rcases this with rfl | rfl | rfl | rfl <;> exact ⟨rfl, rfl⟩
      have HU := hid hu
      have HN3 := hid N3
      have HK3 := hid K3
      clear hu U3 N3 K3
      refine (wait_at _ b _ W3 HN3.out).mono ?_
      rintro e w' ⟨rfl, rfl⟩
      rw [sanA_4]
      go_wp2_with fail
      obtain ⟨wo, rfl⟩ : ∃ wo : World, wo = wr := ⟨_, rfl⟩
      go_loopw [5, 6, 7, 8, 9] (fun okv kv _ _ _ wq => ∃ (k : Nat) (S : Nat → Prop), okv = .bool true ∧ kv = .int .i64 k ∧ k ≤ 4 ∧ Kb (fun x => w.heap.size ≤ x ∧ x ≠ ub) w' wq ∧ Hid (∀ x, S x → w.heap.size ≤ x ∧ x ≠ ub) ∧ NetIs S b wq (sanB k)) (fun _ kv _ _ _ _ => 4 - (intOf kv).toNat)
      case atStart => exact ⟨0, _, rfl, rfl, by omega, Kb.refl _ _, fun x hx => ⟨hx.1, by omega⟩, HN3.out⟩
      case round =>
        obtain ⟨k, S, rfl, rfl, hk, hkb, hS, hnet⟩ := hrel
        by_cases hlt : k < 4
        · obtain ⟨c1, c2⟩ := HU.out k hlt
          have d1 := hkb.cell c1 (by simp)
          have d2 := hkb.cell c2 (by simp)
          obtain ⟨a1, a2, a3⟩ := sanB_ok k hlt
          have hub : ub < wr.heap.size := World.block_lt_of_cell? wr _ d1
          obtain ⟨p1, p2, p3, hp⟩ : ∃ p1 p2 p3, (popL (sanB k).waiting)[3 - k]! = ⟨wantF k, p1, p2, wantT k, p3⟩ := ⟨(sanP k).to_, (sanP k).text, (sanP k).sent, by rw [← a2, ← a3]; rfl⟩
          have HC1 := hid c1
          have HC2 := hid c2
          have A1 := hid a1
          have HP := hid hp
          clear a1 a2 a3 hp c1 c2 d1 d2
          go_wp2_with fail
          refine (next_at S b (3 - k) (sanB k) wr hnet A1.out (by omega) _ _ _ _ _ HP.out).mono ?_
          rintro e w3 ⟨rfl, h2, h3⟩
          have hkb2 := hkb.trans' h2 (fun i _ hi => hS.out i hi)
          have d1 := hkb2.cell HC1.out (by simp)
          have d2 := hkb2.cell HC2.out (by simp)
          have hub3 : ub < w3.heap.size := World.block_lt_of_cell? w3 _ d1
          have hws3 := hkb2.size
          have H3 := hid h3
          clear h3 h2 hkb hnet
          go_wp2_with fail
          go_quiet (fail)
          go_wp2_with fail
          refine ⟨⟨k + 1, S, rfl, by go_num, by omega, (hkb2.alloc _).drewN _, hS, ?_⟩, by simp [intOf]; omega⟩
          exact H3.out.kb (T := fun _ => False) (((Kb.refl _ _).alloc _).drewN _) (fun _ _ x => x)
        · have hk4 : k = 4 := by omega
          subst hk4
          clear hlt
          have KB := hid (HK3.out.trans' hkb (fun i hi h => by omega))
          have NB := hid hnet
          clear hkb hnet hk HU HTM HN2 HN3 HNB HK2 HKA HK3
          obtain ⟨wl, rfl⟩ : ∃ wl : World, wl = wr := ⟨_, rfl⟩
          go_wp2_with fail
          refine (next_empty S b (sanB 4) wl NB.out sanB_4).mono ?_
          rintro e w5 ⟨rfl, k5⟩
          have K5 := hid (KB.out.trans k5)
          have N5 := hid ((NB.out.kb k5 (fun _ _ x => x)).mono (S' := fun x => w.heap.size ≤ x) (fun x hx => (hS.out x hx).1))
          unfold noMsg
          clear k5
          go_wp2_with fail
          generalize hW6 : World.alloc _ _ = W6
          have K6 : Kb (fun _ => False) w W6 := by subst hW6; exact K5.out.alloc _
          have N6 : NetIs (fun x => w.heap.size ≤ x) b W6 (sanB 4) := by subst hW6; exact N5.out.kb (T := fun _ => False) ((Kb.refl _ _).alloc _) (fun _ _ x => x)
          clear hW6
          obtain ⟨a1, a2, a3, a4, a5⟩ := sanB4_ok
          refine (send_at _ b (sanB 4) _ _ _ _ W6 N6 (by omega) (by omega) (by omega) (fun _ => ⟨by omega, by omega⟩) (by omega)).mono ?_
          rintro e w7 ⟨rfl, S7, h1, h2, h3⟩
          have K7 := hid (K6.trans' h2 (fun i hi h => by omega))
          have N7 : Hid (NetIs (fun x => w.heap.size ≤ x) b w7 sanC) := h3.mono (fun x hx => by rcases h1 x hx with h | h; exact h; have := K6.size; omega)
          clear h1 h2 h3 K6 N6 a1 a2 a3 a4 a5
          go_wp2_with fail
          refine (wait_at _ b sanC w7 N7.out).mono ?_
          rintro e w8 ⟨rfl, rfl⟩
          rw [sanC_ok.1]
          go_wp2_with fail
          generalize hW9 : World.alloc _ _ = W9
          have K9 : Kb (fun _ => False) w W9 := by subst hW9; exact K7.out.alloc _
          have N9 : NetIs (fun x => w.heap.size ≤ x ∧ x < w8.heap.size) b W9 sanC := by subst hW9; exact (N7.out.old).kb (T := fun _ => False) ((Kb.refl _ _).alloc _) (fun _ _ x => x)
          have G9 : IntsAt W9 (.slice (some ⟨w8.heap.size, 0, none⟩) 2 2) [1, 2] := by
            subst hW9
            refine Or.inr ⟨_, _, _, rfl, ?_⟩
            intro i hi
            have : i = 0 ∨ i = 1 := by simp at hi; omega
            rcases this with rfl | rfl <;> refine ⟨by simp, by unfold InI; decide⟩
          have hg9 : w8.heap.size < W9.heap.size := by subst hW9; simp
          clear hW9
          refine (part_any _ b sanC [1, 2] _ W9 N9 G9 (fun g e => by simp only [Value.ownBlock, Option.some.injEq] at e; omega) (by decide)).mono ?_
          rintro e w10 ⟨rfl, S10, h1, h2, h3⟩
          have K10 := hid (K9.trans' h2 (fun i hi h => by omega))
          have N10 := hid (h3.mono (S' := fun x => w.heap.size ≤ x) (fun x hx => by rcases h1 x hx with h | h; exact h.1; have := K9.size; omega))
          clear h1 h2 h3 K9 N9 G9 hg9
          obtain ⟨a1, a2, a3, a4, a5⟩ := sanC2_ok
          go_wp2_with fail
          refine (send_at _ b (partS sanC [1, 2]) _ _ _ _ w10 N10.out (by omega) (by omega) (by omega) (fun _ => ⟨by omega, by omega⟩) (by omega)).mono ?_
          rintro e w11 ⟨rfl, S11, h1, h2, h3⟩
          have K11 := hid (K10.out.trans' h2 (fun i hi h => by omega))
          have N11 : Hid (NetIs (fun x => w.heap.size ≤ x) b w11 sanD) := h3.mono (fun x hx => by rcases h1 x hx with h | h; exact h; have := K10.out.size; omega)
          clear h1 h2 h3 a1 a2 a3 a4 a5
          go_wp2_with fail
          refine (wait_at _ b sanD w11 N11.out).mono ?_
          rintro e w12 ⟨rfl, rfl⟩
          rw [sanC_ok.2.1]
          obtain ⟨a1, a2, a3, a4, a5⟩ := sanD_ok
          go_wp2_with fail
          refine (send_at _ b sanD _ _ _ _ w12 N11.out (by omega) (by omega) (by omega) (fun _ => ⟨by omega, by omega⟩) (by omega)).mono ?_
          rintro e w13 ⟨rfl, S13, h1, h2, h3⟩
          have K13 := hid (K11.out.trans' h2 (fun i hi h => by omega))
          have N13 : Hid (NetIs (fun x => w.heap.size ≤ x) b w13 sanE) := h3.mono (fun x hx => by rcases h1 x hx with h | h; exact h; have := K11.out.size; omega)
          clear h1 h2 h3 a1 a2 a3 a4 a5
          go_wp2_with fail
          refine (wait_at _ b sanE w13 N13.out).mono ?_
          rintro e w14 ⟨rfl, rfl⟩
          rw [sanC_ok.2.2]
          go_wp2_with fail
          go_ret
          exact ⟨rfl, K13.out⟩
end Go.Proofs.Ytibnpddmohjeoaa
