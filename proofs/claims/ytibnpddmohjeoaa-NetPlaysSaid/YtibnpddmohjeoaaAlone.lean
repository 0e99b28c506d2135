/- NetAlone: plain part and the walk. -/
import Derived.Test.YtibnpddmohjeoaaSepx
import Derived.Deep.DeepCutAuto
namespace Go.Proofs.Ytibnpddmohjeoaa
open Go.RowKit

def otherT : ByteArray := ⟨#[111, 116, 104, 101, 114]⟩
def thisT : ByteArray := ⟨#[116, 104, 105, 115]⟩
def xM : Msg := ⟨7, 0, thisT⟩
section
variable (l : List Tr) (ts : List Int)
def anS : Nat → St
  | 0 => newS 2 (scriptL l)
  | k + 1 => sendS (anS k) ts[k]! ⟨k, 1, otherT⟩
def amS : Nat → St
  | 0 => newS 2 (scriptL l)
  | k + 1 => sendS (amS k) 0 ⟨0, 5, ⟨#[]⟩⟩
theorem batch_form (m : Msg) (t : Int) (s : Nat) : ∀ k p, p ∈ batch m t s k → p = ⟨m.frm, m.to_, m.text, p.tm, s⟩ := by
  intro k
  induction k with
  | zero => intro p h; cases h
  | succ k ih =>
    intro p h
    rw [batch, List.mem_cons] at h
    rcases h with rfl | h
    · rfl
    · exact ih p h
theorem anS_ok : ∀ k, (anS l ts k).script = scriptL l ∧ (anS l ts k).sent = k ∧ (anS l ts k).nodes = 2 ∧ (∀ x, (anS l ts k).grp x = 0) ∧ Okay (anS l ts k) ∧ (∀ p ∈ (anS l ts k).waiting, p.to_ = 1) ∧ (anS l ts k).waiting.length ≤ 8 * k := by
  intro k
  induction k with
  | zero => exact ⟨rfl, rfl, rfl, fun _ => rfl, Okay.new _ _, by intro p h; simp [anS, newS] at h, by simp [anS, newS]⟩
  | succ k ih =>
    obtain ⟨h1, h2, h3, h4, h5, h6, h7⟩ := ih
    have hlen := sendS_len (anS l ts k) ts[k]! ⟨k, 1, otherT⟩
    refine ⟨by rw [anS, sendS_script, h1], by rw [anS, sendS_sent, h2], by rw [anS, sendS_nodes, h3], by rw [anS, sendS_grp]; exact h4, h5.send _ _, ?_, by rw [anS]; omega⟩
    intro p hp
    rw [anS] at hp
    unfold sendS at hp
    split at hp
    · exact h6 p hp
    · simp only at hp
      rw [(pushK_perm _ _ _ _ _).mem_iff, List.mem_append] at hp
      rcases hp with hp | hp
      · rw [batch_form _ _ _ _ _ hp]
      · exact h6 p hp
theorem amS_ok : ∀ k, (amS l k).script = scriptL l ∧ (amS l k).sent = k ∧ (amS l k).nodes = 2 ∧ (∀ x, (amS l k).grp x = 0) ∧ Okay (amS l k) ∧ (amS l k).waiting = [] := by
  intro k
  induction k with
  | zero => exact ⟨rfl, rfl, rfl, fun _ => rfl, Okay.new _ _, rfl⟩
  | succ k ih =>
    obtain ⟨h1, h2, h3, h4, h5, h6⟩ := ih
    refine ⟨by rw [amS, sendS_script, h1], by rw [amS, sendS_sent, h2], by rw [amS, sendS_nodes, h3], by rw [amS, sendS_grp]; exact h4, h5.send _ _, ?_⟩
    have hd : drops (amS l k) ⟨0, 5, ⟨#[]⟩⟩ = true := by
      unfold drops isNode
      rw [h3]
      simp
    rw [amS]
    unfold sendS
    rw [hd]
    exact h6

/-- What holds of the two nets: the other net waits for the copies to node 0. -/
def Inv (K : Nat) (n m : St) : Prop :=
  Okay n ∧ Okay m ∧ (n.waiting.filter (fun p => p.to_ == 0)).Perm m.waiting ∧ ∀ p ∈ n.waiting, p.to_ = 1 ∨ p = ⟨7, 0, thisT, p.tm, K⟩
theorem al_start (K : Nat) (now : Int) : Inv K (sendS (anS l ts K) now xM) (sendS (amS l K) now xM) := by
  obtain ⟨h1, h2, h3, h4, h5, h6, h7⟩ := anS_ok l ts K
  obtain ⟨g1, g2, g3, g4, g5, g6⟩ := amS_ok l K
  have hd : drops (amS l K) xM = drops (anS l ts K) xM := by
    unfold drops
    rw [h1, h2, h3, g1, g2, g3]
    simp [h4, g4]
  have hf : (anS l ts K).waiting.filter (fun p => p.to_ == 0) = [] := by
    rw [List.filter_eq_nil_iff]
    intro p hp
    rw [h6 p hp]
    decide
  refine ⟨h5.send _ _, g5.send _ _, ?_, ?_⟩
  · unfold sendS
    rw [hd]
    cases drops (anS l ts K) xM with
    | true => simp [hf, g6]
    | false =>
      simp only [Bool.false_eq_true, if_false]
      rw [h1, h2, g1, g2, g6]
      refine ((pushK_perm _ _ _ _ _).filter _).trans ?_
      refine List.Perm.trans ?_ (pushK_perm _ _ _ _ _).symm
      rw [List.filter_append, hf, List.append_nil, List.append_nil]
      rw [List.filter_eq_self.2]
      intro p hp
      rw [batch_form _ _ _ _ _ hp]
      rfl
  · intro p hp
    unfold sendS at hp
    split at hp
    · exact Or.inl (h6 p hp)
    · simp only at hp
      rw [(pushK_perm _ _ _ _ _).mem_iff, List.mem_append] at hp
      rcases hp with hp | hp
      · right
        have := batch_form _ _ _ _ _ hp
        rw [h2] at this
        exact this
      · exact Or.inl (h6 p hp)
theorem al_len (K : Nat) (now : Int) : (sendS (anS l ts K) now xM).waiting.length ≤ 8 * (K + 1) := by
  have h1 := sendS_len (anS l ts K) now xM
  have h2 := (anS_ok l ts K).2.2.2.2.2.2
  omega
end
theorem al_step (K : Nat) (n m : St) (c : Nat) (h : Inv K n m) (hl : n.waiting.length = c + 1) :
    ∃ (f t : Int) (x : ByteArray) (tm s : Int), (popL n.waiting)[c]! = ⟨f, t, x, tm, s⟩ ∧ (nextS n).waiting.length = c ∧
      (t = 1 ∧ Inv K (nextS n) m ∨ f = 7 ∧ t = 0 ∧ x = thisT ∧ s = K ∧ ∃ c', m.waiting.length = c' + 1 ∧ (popL m.waiting)[c']! = ⟨7, 0, thisT, tm, K⟩ ∧ Inv K (nextS n) (nextS m)) := by
  obtain ⟨h1, h2, h3, h4⟩ := h
  obtain ⟨e1, e2, e3, e4⟩ := popL_spec n.waiting c hl h1
  have hm := get!_mem n.waiting 0 (by omega)
  have hnw : (nextS n).waiting = (popL n.waiting).take c := by unfold nextS; simp only [hl, Nat.add_sub_cancel]
  have hsub : ∀ p ∈ (nextS n).waiting, p ∈ n.waiting := by
    intro p hp
    rw [← e2.mem_iff]
    rw [hnw] at hp
    exact List.mem_cons_of_mem _ hp
  have hpf := e2.filter (fun p => p.to_ == 0)
  rw [← hnw, List.filter_cons] at hpf
  rw [e1]
  generalize n.waiting[0]! = p at *
  refine ⟨p.frm, p.to_, p.text, p.tm, p.sent, rfl, by rw [nextS_len, hl]; rfl, ?_⟩
  rcases h4 p hm with ht | ht
  · left
    rw [ht] at hpf
    exact ⟨ht, h1.next c hl, h2, hpf.trans h3, fun q hq => h4 q (hsub q hq)⟩
  · right
    have hto : p.to_ = 0 := by rw [ht]
    rw [hto] at hpf
    simp only [BEq.rfl, if_true] at hpf
    have h5 := hpf.trans h3
    have h6 := h5.length_eq
    simp only [List.length_cons] at h6
    refine ⟨by rw [ht], hto, by rw [ht], by rw [ht], ((nextS n).waiting.filter (fun p => p.to_ == 0)).length, h6.symm, ?_⟩
    obtain ⟨f1, f2, f3, f4⟩ := popL_spec m.waiting _ h6.symm h2
    have hmm := get!_mem m.waiting 0 (by omega)
    have hmn : m.waiting[0]! ∈ n.waiting := by
      have := h3.mem_iff.2 hmm
      rw [List.mem_filter] at this
      exact this.1
    have hmz : m.waiting[0]!.to_ = 0 := by
      have := h3.mem_iff.2 hmm
      rw [List.mem_filter] at this
      simpa using this.2
    have hpm : p ∈ m.waiting := h5.mem_iff.1 (by simp)
    have l1 := f4 p hpm
    have l2 := e4 _ hmn
    have hq : m.waiting[0]! = p := by
      rcases h4 _ hmn with h | h
      · omega
      · have ea : p.sent = K := by rw [ht]
        have eb : m.waiting[0]!.sent = K := by rw [h]
        rw [leP_iff, ea, eb] at l1 l2
        have ec : m.waiting[0]!.tm = p.tm := by omega
        rw [h, ht, ec]
    rw [f1, hq]
    refine ⟨ht, h1.next c hl, h2.next _ h6.symm, ?_, fun q hq => h4 q (hsub q hq)⟩
    rw [hq] at f2
    have hmw : (nextS m).waiting = (popL m.waiting).take ((nextS n).waiting.filter (fun p => p.to_ == 0)).length := by
      show (popL m.waiting).take (m.waiting.length - 1) = _
      rw [← h6]
      rfl
    rw [hmw]
    exact (h5.trans f2.symm).cons_inv
theorem al_end (K : Nat) (n m : St) (h : Inv K n m) (h0 : n.waiting = []) : m.waiting = [] := by
  have := h.2.2.1
  rw [h0] at this
  exact this.symm.eq_nil

set_option maxHeartbeats 4000000 in
set_option maxRecDepth 100000 in
theorem alone_any (v : Value) (l : List Tr) (a : Option Addr) (n c : Nat) (ts : List Int) (now : Int) (w : World) (hl : l.length ≤ 9223372036854775807) (h : TrsAt w v l) (hv : ∀ g, v.ownBlock = some g → g < w.heap.size) (hn : n ≤ 9223372036854775807) (hu : U16At w a n c ts) (hnow : 0 ≤ now ∧ now ≤ 65535) :
    Calls Try.prog 5 #[v, .slice a n c, .int .u16 now] w fun e w' => e = .returned (.bool true) ∧ Kb (fun _ => False) w w' := by
  have HT := hid h
  have HV := hid hv
  have HU := hid hu
  have hnc := hu.1
  obtain ⟨hnow1, hnow2⟩ := hnow
  clear h hv hu
  go_enter Try.func5, Try.ntmps5
  go_wp2_with fail
  refine (sanity_any w).mono ?_
  rintro e w1 ⟨rfl, k1⟩
  have zk1 := k1.size
  go_wp2_with fail
  refine (script_any v l w1 hl (HT.out.kb k1 (fun _ _ => by simp)) (fun g e => by have := HV.out g e; omega)).mono ?_
  rintro e w2 ⟨sv, rfl, k2, r2, o2⟩
  have zk2 := k2.size
  have K2 := hid (k1.trans k2)
  have R2 := hid r2
  have hsl : (scriptL l).length ≤ 12 := by rw [scriptL_length]; omega
  clear k1 k2 HT HV
  go_wp2_with fail
  refine (new_any 2 sv _ w2 (by omega) r2).mono ?_
  rintro e w3 ⟨nb, rfl, k3, n3⟩
  have zk3 := k3.size
  have N3 := hid n3
  have K3 := hid k3
  have R3 := hid (R2.out.kb k3 (fun _ _ => by simp))
  clear n3 k3 r2 o2
  have hw0 : w.heap.size ≤ w1.heap.size := zk1
  go_wp2_with fail
  refine (new_any 2 sv _ w3 (by omega) R3.out).mono ?_
  rintro e w5 ⟨mb, rfl, k5, n5⟩
  have zk5 := k5.size
  have S5 : Hid (Sep w2.heap.size (NetP nb (anS l ts 0)) (NetP mb (amS l 0)) w5) :=
    Sep.mk (stab_net _ _) (stab_net _ _) (S := fun x => w2.heap.size ≤ x ∧ x < w3.heap.size) (w := w3) (NetIs.old N3.out) (fun x hx => by omega) (by omega) k5 n5
  have K5 := hid ((K2.out.trans K3.out).trans k5)
  clear k5 n5 N3 K3 K2 R2 R3
  go_upto_region 5 with fail
  go_cut [1] (fun v wx => ∃ k, v = .slice a k c ∧ k ≤ 30 ∧ Hid (U16At w a k c (ts.take 30)) ∧ wx = w5)
  case first =>
    go_wp2_with fail
    · have h30 : 30 < n := by omega
      go_meet
      exact ⟨30, rfl, by omega, HU.out.take 30 (by omega), rfl⟩
    · have h30 : n ≤ 30 := by omega
      go_meet
      exact ⟨n, rfl, h30, by rw [List.take_of_length_le (by have := HU.out.2.1; omega)]; exact HU.out, rfl⟩
  case rest =>
    obtain ⟨k, rfl, hk30, HL, rfl⟩ := hcut
    have S5 : Hid (Sep w2.heap.size (NetP nb (anS l (ts.take 30) 0)) (NetP mb (amS l 0)) wc) := S5.out
    generalize ts.take 30 = ts at *
    clear HU hnc hn
    go_wp2_with fail
    go_loopw [11] (fun kv wr => ∃ j : Nat, kv = .int .i64 j ∧ j ≤ k ∧ Hid (Sep w2.heap.size (NetP nb (anS l ts j)) (NetP mb (amS l j)) wr) ∧ Kb (fun x => w2.heap.size ≤ x) wc wr) (fun kv _ => k - (intOf kv).toNat)
    case atStart => exact ⟨0, rfl, Nat.zero_le _, S5.out, Kb.refl _ _⟩
    case round =>
      obtain ⟨j, rfl, hj, hsep, hkb⟩ := hrel
      have zr := hkb.size
      obtain ⟨o1, o2, o3, o4, o5, o6, o7⟩ := anS_ok l ts j
      obtain ⟨q1, q2, q3, q4, q5, q6⟩ := amS_ok l j
      have hdel := trOf_delay l j
      by_cases hlt : j < k
      · obtain ⟨g, o, rfl, hg, hc, hb1, hb2⟩ := HL.out.2.2 j hlt
        have c0 := hkb.cell (K5.out.cell hc (by simp)) (by show ¬ w2.heap.size ≤ g; omega)
        obtain ⟨tk, htk⟩ : ∃ tk, tk = ts[j]! := ⟨_, rfl⟩
        rw [← htk] at c0 hb1 hb2
        have HTK := hid htk
        have hgl : g < wr.heap.size := World.block_lt_of_cell? wr _ c0
        have O1 := hid o1
        have O2 := hid o2
        have O3 := hid o3
        have Q1 := hid q1
        have Q2 := hid q2
        have Q3 := hid q3
        have Q6 := hid q6
        have HDE := hid hdel
        clear o1 o2 o3 o4 o5 o6 q1 q2 q3 q4 q5 q6 hdel hc htk
        go_wp2_with fail
        refine (sep_send (stab_net _ _) hsep.out (by omega) tk j 1 otherT (by rw [O1.out]; omega) (by rw [O2.out]; omega) (by omega) (fun _ => ⟨by omega, by rw [O1.out, O2.out]; have := HDE.out; omega⟩) (by rw [O3.out]; omega)).mono ?_
        rintro e w6 ⟨rfl, s6, k6⟩
        have S6 : Hid (Sep w2.heap.size (NetP mb (amS l j)) (NetP nb (anS l ts (j + 1))) w6) := by
          rw [HTK.out] at s6
          exact s6.swap
        have z6 := k6.size
        have K6 := hid (hkb.trans k6)
        clear s6 k6 hsep hkb
        go_wp2_with fail
        refine (sep_send (stab_net _ _) S6.out (by omega) 0 0 5 ⟨#[]⟩ (by rw [Q1.out]; omega) (by rw [Q2.out]; omega) (by rw [Q6.out]; simp) (fun _ => ⟨by omega, by rw [Q1.out, Q2.out]; have := HDE.out; omega⟩) (by rw [Q3.out]; omega)).mono ?_
        rintro e w7 ⟨rfl, s7, k7⟩
        have S7 := hid s7.swap
        have K7 := hid (K6.out.trans k7)
        clear s7 k7 S6 K6
        go_wp2_with fail
        go_roundw
        case rel => exact ⟨j + 1, by go_num, by omega, S7.out, K7.out⟩
        case measure => simp [intOf]; omega
      · have hinv := al_start l ts j now
        have hlen := al_len l ts j now
        have hj248 : (sendS (anS l ts j) now xM).waiting.length ≤ 248 := by omega
        have hwl : (anS l ts j).waiting.length ≤ 240 := by omega
        have HI := hid hinv
        have HLE := hid hj248
        have O1 := hid o1
        have O2 := hid o2
        have O3 := hid o3
        have Q1 := hid q1
        have Q2 := hid q2
        have Q3 := hid q3
        have Q6 := hid q6
        have HDE := hid hdel
        have KA := hid (K5.out.trans' hkb (fun i hi e => by have : w2.heap.size ≤ i := e; omega))
        clear o1 o2 o3 o4 o5 o6 o7 q1 q2 q3 q4 q5 q6 hdel hinv hlen hj248 hkb K5
        go_wp2_with fail
        generalize hW6 : World.alloc _ _ = W6
        have k6 : Kb (fun _ => False) wr W6 := by subst hW6; exact (Kb.refl _ _).alloc _
        have B6 : W6.heap[wr.heap.size]? = some (.cells #[.int .i64 7, .int .i64 0, .string thisT] 31 (0, 0)) := by subst hW6; exact heap_alloc_new wr _
        have S6 : Hid (Sepx (fun x => w2.heap.size ≤ x ∧ x ≠ wr.heap.size) (NetP nb (anS l ts j)) (NetP mb (amS l j)) W6) :=
          Sepx.kb0 (hsep.out.sepx (fun x h1 h2 => ⟨h1, by omega⟩)) (stab_net _ _) (stab_net _ _) k6
        have zW : wr.heap.size < W6.heap.size := block_lt B6
        have c0 := cell_of_heap B6 0
        have c1 := cell_of_heap B6 1
        have c2 := cell_of_heap B6 2
        simp only [List.getElem?_toArray, List.getElem?_cons_succ, List.getElem?_cons_zero] at c0 c1 c2
        have K6 := hid (KA.out.trans k6)
        have HB6 := hid B6
        have hp0 : w2.heap.size ≤ wr.heap.size := by omega
        clear hW6 B6 k6 hsep KA
        generalize wr.heap.size = pb at *
        go_wp2_with fail
        refine (sepx_send (stab_net _ _) S6.out (fun x hx => ⟨by omega, by omega⟩) now 7 0 thisT (by rw [O1.out]; omega) (by rw [O2.out]; omega) (by omega) (fun _ => ⟨by omega, by rw [O1.out, O2.out]; have := HDE.out; omega⟩) (by rw [O3.out]; omega)).mono ?_
        rintro e w7 ⟨rfl, s7, k7⟩
        have z7 := k7.size
        have B7 := k7.heap HB6.out (by rintro ⟨_, h⟩; exact h rfl)
        have c0 := cell_of_heap B7 0
        have c1 := cell_of_heap B7 1
        have c2 := cell_of_heap B7 2
        simp only [List.getElem?_toArray, List.getElem?_cons_succ, List.getElem?_cons_zero] at c0 c1 c2
        have hb7 : pb < w7.heap.size := block_lt B7
        have S7 : Hid (Sepx (fun x => w2.heap.size ≤ x ∧ x ≠ pb) (NetP mb (amS l j)) (NetP nb (sendS (anS l ts j) now xM)) w7) := s7.swap
        have HB7 := hid B7
        have K7 := hid (K6.out.trans' k7 (fun i hi e => by omega))
        clear s7 k7 S6 K6 HB6 B7
        go_wp2_with fail
        refine (sepx_send (stab_net _ _) S7.out (fun x hx => ⟨by omega, by omega⟩) now 7 0 thisT (by rw [Q1.out]; omega) (by rw [Q2.out]; omega) (by rw [Q6.out]; simp) (fun _ => ⟨by omega, by rw [Q1.out, Q2.out]; have := HDE.out; omega⟩) (by rw [Q3.out]; omega)).mono ?_
        rintro e w8 ⟨rfl, s8, k8⟩
        have z8 := k8.size
        have B8 := k8.heap HB7.out (by rintro ⟨_, h⟩; exact h rfl)
        have hb8 : pb < w8.heap.size := block_lt B8
        have S8 : Hid (Sepx (fun x => w2.heap.size ≤ x ∧ x ≠ pb) (NetP nb (sendS (anS l ts j) now xM)) (NetP mb (sendS (amS l j) now xM)) w8) := s8.swap
        have HB8 := hid B8
        have K8 := hid (K7.out.trans' k8 (fun i hi e => by omega))
        clear s8 k8 S7 K7 HB7 B8 c0 c1 c2 O1 O2 O3 Q1 Q2 Q3 Q6 HDE
        generalize sendS (anS l ts j) now xM = n0 at *
        generalize sendS (amS l j) now xM = m0 at *
        go_wp2_with fail
        go_loopw [13, 14, 15, 16, 17, 18, 19] (fun kv _ _ _ _ _ _ wr => ∃ (i : Nat) (n m : St), kv = .int .i64 i ∧ i + n.waiting.length ≤ 248 ∧ Hid (Sepx (fun x => w2.heap.size ≤ x ∧ x ≠ pb) (NetP nb n) (NetP mb m) wr) ∧ Kb (fun x => w2.heap.size ≤ x ∧ x ≠ pb) w8 wr ∧ Hid (Inv j n m)) (fun kv _ _ _ _ _ _ _ => 300 - (intOf kv).toNat)
        case atStart => exact ⟨0, n0, m0, rfl, by have := HLE.out; omega, S8.out, Kb.refl _ _, HI.out⟩
        case round =>
          obtain ⟨i, n, m, rfl, hi, hsep, hkb, hinv⟩ := hrel
          have zr := hkb.size
          have hlt : i < 300 := by omega
          by_cases h0 : n.waiting.length = 0
          · have h00 : n.waiting = [] := List.eq_nil_of_length_eq_zero h0
            have h01 := al_end j n m hinv.out h00
            have H00 := hid h00
            have H01 := hid h01
            clear h0 h00 h01
            go_wp2_with fail
            refine (sepx_empty (stab_net _ _) hsep.out H00.out).mono ?_
            rintro e w9 ⟨rfl, s9, k9⟩
            unfold noMsg
            have S9 := hid (s9.kb0 (stab_net _ _) (stab_net _ _) ((Kb.refl _ _).alloc (.cells #[.int .i64 0, .int .i64 0, .string .empty] 31)))
            have K9 := hid ((hkb.trans (k9.mono (T := fun x => w2.heap.size ≤ x ∧ x ≠ pb) (fun _ _ x => x.elim))).alloc (.cells #[.int .i64 0, .int .i64 0, .string .empty] 31))
            clear s9 k9 hsep hkb
            go_wp2_with fail
            refine (sepx_wait S9.out.swap).mono ?_
            rintro e w10 ⟨rfl, rfl⟩
            rw [H01.out]
            go_wp2_with fail
            refine (sepx_wait S9.out).mono ?_
            rintro e w11 ⟨rfl, rfl⟩
            rw [H00.out]
            go_wp2_with fail
            go_ret
            exact ⟨rfl, K8.out.trans' K9.out (fun i hi e => by omega)⟩
          · obtain ⟨n1, hn1⟩ : ∃ n1, n.waiting.length = n1 + 1 := ⟨n.waiting.length - 1, by omega⟩
            obtain ⟨f, t, x, tm, s, p1, p2, p3⟩ := al_step j n m n1 hinv.out hn1
            have HN1 := hid hn1
            have P1 := hid p1
            clear h0 p1 hinv
            go_wp2_with fail
            refine (sepx_next (stab_net _ _) hsep.out (fun x hx => ⟨by omega, by omega⟩) n1 HN1.out (by omega) f t x tm s P1.out).mono ?_
            rintro e w9 ⟨rfl, s9, k9⟩
            have z9 := k9.size
            rcases p3 with ⟨ht, hinv⟩ | ⟨rfl, rfl, rfl, rfl, c', q1, q2, hinv⟩
            · subst ht
              have hinv2 := hid hinv
              have S9 := hid (s9.kb0 (stab_net _ _) (stab_net _ _) ((Kb.refl _ _).alloc (.cells #[.int .i64 f, .int .i64 1, .string x] 31)))
              have K9 := hid ((hkb.trans k9).alloc (.cells #[.int .i64 f, .int .i64 1, .string x] 31))
              clear s9 k9 hsep hkb hinv
              go_wp2_with fail
              refine ⟨⟨i + 1, nextS n, m, by go_num, by omega, S9.out, K9.out, hinv2⟩, by simp [intOf]; omega⟩
            · have HI2 := hid hinv
              have Q1 := hid q1
              have Q2 := hid q2
              have S9 := hid s9.swap
              have K9 := hid (hkb.trans k9)
              clear s9 k9 hsep hkb hinv q1 q2
              go_wp2_with fail
              generalize hW10 : World.alloc _ _ = W10
              have k10 : Kb (fun _ => False) w9 W10 := by subst hW10; exact (Kb.refl _ _).alloc _
              have B10 : W10.heap[w9.heap.size]? = some (.cells #[.int .i64 7, .int .i64 0, .string thisT] 31 (0, 0)) := by subst hW10; exact heap_alloc_new w9 _
              have K10 := hid (K9.out.trans (k10.mono (T := fun x => w2.heap.size ≤ x ∧ x ≠ pb) (fun _ _ x => x.elim)))
              have z10 := k10.size
              have HK10 := hid k10
              have B10' := hid B10
              have hc' : c' + 1 ≤ 1000000 := by
                have h1 := HI2.out.2.2.1.length_eq
                have h2 := List.length_filter_le (fun p : Pc => p.to_ == 0) (nextS n).waiting
                have h3 : (nextS m).waiting.length = c' := by rw [nextS_len, Q1.out]; rfl
                omega
              clear hW10 k10 B10 K9
              refine (sepx_next_new (stab_net _ _) S9.out HK10.out (fun x hx => ⟨by omega, by omega⟩) c' Q1.out hc' 7 0 thisT tm _ Q2.out).mono ?_
              rintro e w11 ⟨rfl, s11, k11⟩
              have K11 := hid (K10.out.trans (k11.mono (T := fun x => w2.heap.size ≤ x ∧ x ≠ pb) (fun _ _ x => x.1)))
              have S11 := hid s11.swap
              have B11 := k11.heap B10'.out (by omega)
              have b0 := cell_of_heap B11 0
              have b1 := cell_of_heap B11 1
              have b2 := cell_of_heap B11 2
              have BP := K11.out.heap HB8.out (by rintro ⟨_, h⟩; exact h rfl)
              have c0 := cell_of_heap BP 0
              have c1 := cell_of_heap BP 1
              have c2 := cell_of_heap BP 2
              simp only [List.getElem?_toArray, List.getElem?_cons_succ, List.getElem?_cons_zero] at b0 b1 b2 c0 c1 c2
              have hbl : w9.heap.size < w11.heap.size := block_lt B11
              have hpl : pb < w11.heap.size := block_lt BP
              clear s11 k11 S9 K10 B10' B11 BP HK10
              generalize w9.heap.size = ab at *
              go_wp2_with fail
              refine ⟨⟨i + 1, nextS n, nextS m, by go_num, by omega, S11.out.kb0 (stab_net _ _) (stab_net _ _) ((Kb.refl _ _).alloc _), K11.out.alloc _, HI2.out⟩, by simp [intOf]; omega⟩
end Go.Proofs.Ytibnpddmohjeoaa
