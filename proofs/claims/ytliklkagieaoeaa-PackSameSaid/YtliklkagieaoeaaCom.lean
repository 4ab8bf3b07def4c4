/- What the laws share: arguments, what forms and readings are made of. -/
import Derived.Test.YtliklkagieaoeaaP15
import Derived.Test.YtliklkagieaoeaaWk
import Derived.Test.YtliklkagieaoeaaFw25
namespace Stk
open Go
set_option maxRecDepth 100000
set_option linter.unusedSimpArgs false
set_option linter.unusedVariables false
set_option maxHeartbeats 4000000
abbrev CmD : TyD := .st [.int .u8, .int .i64, .int .i64, .int .i64, .int .i64, .bool, .arr 32 (.int .u8), .sl 1 (.int .u8)]
abbrev EnD : TyD := .st [.int .i64, CmD]
/-- Bytes that a machine can hold, of a type's values. -/
theorem allB_of {L : List Tr} (h : ∀ y ∈ L, TrD (.int .u8) y) : AllB L := by
  intro y hy
  obtain ⟨a, rfl, w1⟩ := h y hy
  have := wf_u8 w1
  exact ⟨a, rfl, by omega, by omega⟩
theorem bytesB {x : Tr} (h : TrD (.sl 1 (.int .u8)) x) : ∃ f L, x = .sl f 1 L ∧ AllB L := by
  obtain ⟨f, L, rfl, _, h1, h2⟩ := h
  exact ⟨f, L, rfl, allB_of h2⟩
structure Cm.WB (c : Cm) : Prop where
  k : 0 ≤ c.kind ∧ c.kind ≤ 255
  h : c.hash.length = 32
  hb : AllB c.hash
  db : AllB c.data
  i : ∀ n ∈ [c.client, c.seq, c.node, c.epoch], -9223372036854775808 ≤ n ∧ n ≤ 9223372036854775807
theorem Cm.WB.ok {c : Cm} (h : c.WB) (hl : c.data.length ≤ 2 ^ 38) : c.OK := ⟨h.k, h.h, h.hb, h.db, hl⟩
theorem cm_of {x : Tr} (h : TrD CmD x) : ∃ (c : Cm) (f : Bool), x = c.t f ∧ c.WB := by
  obtain ⟨_, rfl, y0, _, rfl, ⟨k, rfl, w0⟩, y1, _, rfl, ⟨a, rfl, w1⟩, y2, _, rfl, ⟨b, rfl, w2⟩, y3, _, rfl, ⟨d, rfl, w3⟩, y4, _, rfl, ⟨e, rfl, w4⟩, y5, _, rfl, ⟨m, rfl⟩, y6, _, rfl, ⟨hs, rfl, hl, hh⟩, y7, _, rfl, ⟨f, L, rfl, _, h1, h2⟩, rfl⟩ := h
  have := wf_u8 w0
  refine ⟨⟨k, a, b, d, e, m, hs, L⟩, f, rfl, by show 0 ≤ k ∧ k ≤ 255; omega, hl, allB_of hh, allB_of h2, ?_⟩
  intro n hn
  simp only [List.mem_cons, List.not_mem_nil, or_false] at hn
  rcases hn with rfl | rfl | rfl | rfl
  · exact wf_i64 w1
  · exact wf_i64 w2
  · exact wf_i64 w3
  · exact wf_i64 w4
theorem en_of {x : Tr} (h : TrD EnD x) : ∃ (t : Int) (c : Cm) (f : Bool), x = .agg [i6 t, c.t f] ∧ c.WB ∧ -9223372036854775808 ≤ t ∧ t ≤ 9223372036854775807 := by
  obtain ⟨_, rfl, y0, _, rfl, ⟨k, rfl, w0⟩, y1, _, rfl, h1, rfl⟩ := h
  obtain ⟨c, f, rfl, hc⟩ := cm_of h1
  exact ⟨k, c, f, rfl, hc, wf_i64 w0⟩
theorem cmdB_b {c : Cm} (hc : c.OK) : AllB (cmdB c) := by
  have h1 : AllB [u8 c.kind] := AllB.cons hc.k AllB.nil
  have h2 : AllB (mkB c.yes) := by cases c.yes <;> exact AllB.cons (by decide) AllB.nil
  have hn : ∀ ns : List Int, AllB (nums ns) := by
    intro ns
    induction ns with
    | nil => exact AllB.nil
    | cons n ns ih => rw [nums_cons]; exact (leB_b _ _).append ih
  exact (((h1.append (hn _)).append h2).append hc.hb).append ((leB_b _ _).append hc.db)
theorem putC_b {c : Cm} (hc : c.OK) : AllB (putC c).1 ∧ (putC c).1.length ≤ 2 ^ 40 := by
  unfold putC
  split
  · exact ⟨AllB.nil, by simp⟩
  · refine ⟨cmdB_b hc, ?_⟩
    have := cmdB_len c hc
    have := hc.dl
    show (cmdB c).length ≤ _
    omega
theorem putE_b {x : En} (hc : x.cmd.OK) : AllB (putE x).1 ∧ (putE x).1.length ≤ 2 ^ 40 := by
  unfold putE
  split
  · exact ⟨AllB.nil, by simp⟩
  · refine ⟨(leB_b _ _).append (cmdB_b hc), ?_⟩
    have := cmdB_len x.cmd hc
    have := hc.dl
    show (num x.term ++ cmdB x.cmd).length ≤ _
    rw [List.length_append, num_len]
    omega
theorem zC_ok : zC.OK := ⟨by decide, rfl, fun y hy => ⟨0, List.eq_of_mem_replicate hy, by omega⟩, AllB.nil, by decide⟩
theorem takeC_ok {L : List Tr} (hL : AllB L) : (takeC L).1.OK := by
  unfold takeC
  split
  · exact (Rd.cmd_b (r := ⟨L, 0⟩) hL).2.1
  · exact zC_ok
theorem takeE_ok {L : List Tr} (hL : AllB L) : (takeE L).1.cmd.OK := by
  unfold takeE
  split
  · exact (Rd.ent_b (r := ⟨L, 0⟩) hL).2.1
  · exact zC_ok
abbrev MsD : TyD := .st [.int .u8, .int .i64, .int .i64, .int .i64, .int .i64, .int .i64, .int .i64, .int .i64, .int .i64, .int .i64, .bool, .int .i64, .arr 32 (.int .u8), .sl 40 EnD, .sl 1 (.int .u8)]
abbrev I64 (n : Int) : Prop := -9223372036854775808 ≤ n ∧ n ≤ 9223372036854775807
abbrev Ms.t (m : Ms) (f g : Bool) : Tr := .agg [u8 m.kind, i6 (m.ns.getD 0 0), i6 (m.ns.getD 1 0), i6 (m.ns.getD 2 0), i6 (m.ns.getD 3 0), i6 (m.ns.getD 4 0), i6 (m.ns.getD 5 0), i6 (m.ns.getD 6 0), i6 (m.ns.getD 7 0), i6 (m.ns.getD 8 0), .bool m.yes, i6 m.code, .arr 32 m.hash, .sl f 40 (m.es.map eT), .sl g 1 m.data]
theorem es_of : ∀ {xs : List Tr}, (∀ y ∈ xs, TrD EnD y) → ∃ es : List (En × Bool), xs = es.map eT ∧ ∀ p ∈ es, p.1.cmd.WB ∧ I64 p.1.term ∧ p.1.cmd.data.length ≤ 2 ^ 47
  | [], _ => ⟨[], rfl, fun p hp => absurd hp (by simp)⟩
  | x :: xs, h => by
    obtain ⟨es, rfl, h2⟩ := es_of (xs := xs) fun y hy => h y (by simp [hy])
    have hx := h x (by simp)
    obtain ⟨_, rfl, y0, _, rfl, ⟨k, rfl, w0⟩, y1, _, rfl, h1, rfl⟩ := hx
    have hl : ∀ (c : Cm) (f : Bool), TrD CmD (c.t f) → c.data.length ≤ 2 ^ 47 := by
      intro c f hc
      obtain ⟨_, e, y0, _, rfl, _, y1, _, rfl, _, y2, _, rfl, _, y3, _, rfl, _, y4, _, rfl, _, y5, _, rfl, _, y6, _, rfl, _, y7, _, rfl, ⟨f, L, rfl, _, h1, h2⟩, rfl⟩ := hc
      have h1' : L.length * 1 ≤ 140737488351232 := h1
      injection e with e
      simp only [List.cons.injEq, Tr.sl.injEq] at e
      rw [e.2.2.2.2.2.2.2.1.2.2]
      omega
    have hc0 := h1
    obtain ⟨c, f, rfl, hc⟩ := cm_of h1
    refine ⟨(⟨k, c⟩, f) :: es, rfl, ?_⟩
    intro p hp
    rcases List.mem_cons.1 hp with rfl | hp
    · exact ⟨hc, wf_i64 w0, hl c f hc0⟩
    · exact h2 p hp
structure Ms.WB (m : Ms) : Prop where
  k : 0 ≤ m.kind ∧ m.kind ≤ 255
  h : m.hash.length = 32
  hb : AllB m.hash
  db : AllB m.data
  dl : m.data.length ≤ 2 ^ 47
  e : ∀ p ∈ m.es, p.1.cmd.WB ∧ I64 p.1.term ∧ p.1.cmd.data.length ≤ 2 ^ 47
  el : m.es.length ≤ 2 ^ 47
  n : m.ns.length = 9
  ni : ∀ n ∈ m.ns, I64 n
  ci : I64 m.code
theorem ms_of {x : Tr} (h : TrD MsD x) : ∃ (m : Ms) (f g : Bool), x = m.t f g ∧ m.WB := by
  obtain ⟨_, rfl, y0, _, rfl, ⟨k, rfl, w0⟩, y1, _, rfl, ⟨n0, rfl, v0⟩, y2, _, rfl, ⟨n1, rfl, v1⟩, y3, _, rfl, ⟨n2, rfl, v2⟩, y4, _, rfl, ⟨n3, rfl, v3⟩, y5, _, rfl, ⟨n4, rfl, v4⟩, y6, _, rfl, ⟨n5, rfl, v5⟩, y7, _, rfl, ⟨n6, rfl, v6⟩, y8, _, rfl, ⟨n7, rfl, v7⟩, y9, _, rfl, ⟨n8, rfl, v8⟩, y10, _, rfl, ⟨ys, rfl⟩, y11, _, rfl, ⟨code, rfl, wc⟩, y12, _, rfl, ⟨hs, rfl, hl, hh⟩, y13, _, rfl, ⟨f, E, rfl, _, h1, h2⟩, y14, _, rfl, ⟨g, L, rfl, _, h3, h4⟩, rfl⟩ := h
  obtain ⟨es, rfl, hes⟩ := es_of h2
  have h3' : L.length * 1 ≤ 140737488351232 := h3
  have h1' : (es.map eT).length * (TyD.bytes EnD) ≤ 140737488351232 := h1
  have hb : 1 ≤ TyD.bytes EnD := by decide
  have hel : es.length ≤ 140737488351232 := by
    rw [List.length_map] at h1'
    exact Nat.le_trans (Nat.le_mul_of_pos_right _ hb) h1'
  have := wf_u8 w0
  refine ⟨⟨k, [n0, n1, n2, n3, n4, n5, n6, n7, n8], ys, code, hs, es, L⟩, f, g, rfl, by show 0 ≤ k ∧ k ≤ 255; omega, hl, allB_of hh, allB_of h4, by show L.length ≤ _; omega, hes, by show es.length ≤ _; omega, rfl, ?_, wf_i64 wc⟩
  intro n hn
  simp only [List.mem_cons, List.not_mem_nil, or_false] at hn
  rcases hn with rfl | rfl | rfl | rfl | rfl | rfl | rfl | rfl | rfl
  · exact wf_i64 v0
  · exact wf_i64 v1
  · exact wf_i64 v2
  · exact wf_i64 v3
  · exact wf_i64 v4
  · exact wf_i64 v5
  · exact wf_i64 v6
  · exact wf_i64 v7
  · exact wf_i64 v8
theorem tot_mem : ∀ {es : List (En × Bool)} {p : En × Bool}, p ∈ es → 80 + p.1.cmd.data.length ≤ tot es
  | q :: es, p, h => by
    have e : tot (q :: es) = (80 + q.1.cmd.data.length) + tot es := by simp [tot]
    rw [e]
    rcases List.mem_cons.1 h with rfl | h
    · omega
    · have := tot_mem h; omega
theorem tot_len : ∀ (es : List (En × Bool)), 80 * es.length ≤ tot es
  | [] => by simp [tot]
  | q :: es => by
    have e : tot (q :: es) = (80 + q.1.cmd.data.length) + tot es := by simp [tot]
    have := tot_len es
    rw [e, List.length_cons]; omega
theorem Ms.WB.ok {m : Ms} (h : m.WB) (ht : m.data.length + tot m.es ≤ 300000) : m.OK := by
  have := tot_len m.es
  refine ⟨h.k, h.h, h.hb, h.db, by omega, ?_, by omega, h.n⟩
  intro p hp
  have := tot_mem hp
  exact ⟨(h.e p hp).1.ok (by omega), by omega⟩
/-- The same, its entries' data owned. -/
def Ms.un (m : Ms) : Ms := { m with es := m.es.map fun p => (p.1, false) }
theorem un_eT (m : Ms) : m.un.es.map eT = m.es.map ownT := by simp only [Ms.un, List.map_map]; rfl
theorem un_sm (m : Ms) : m.un.sm m := ⟨rfl, rfl, rfl, rfl, rfl, rfl, by simp [Ms.un]⟩
theorem un_sm2 (m : Ms) : m.un.sm m.un := Ms.sm_refl _
theorem un_putM (m : Ms) : putM m.un = putM m := by
  have h1 : m.un.bad = m.bad := by simp only [Ms.bad, Ms.un, List.length_map, List.any_map]; rfl
  have h2 : msgB m.un = msgB m := by simp only [msgB, Ms.head, entriesB, Ms.un, List.length_map, List.map_map]; rfl
  unfold putM
  rw [h1, h2]
theorem un_ok {m : Ms} (h : m.OK) : m.un.OK := by
  refine ⟨h.k, h.h, h.hb, h.db, h.dl, ?_, by simp [Ms.un]; exact h.el, h.n⟩
  intro p hp
  simp only [Ms.un, List.mem_map] at hp
  obtain ⟨q, hq, rfl⟩ := hp
  exact h.e q hq
abbrev Ms.ov (m : Ms) : AV := av15 m.kind (m.ns.getD 0 0) (m.ns.getD 1 0) (m.ns.getD 2 0) (m.ns.getD 3 0) (m.ns.getD 4 0) (m.ns.getD 5 0) (m.ns.getD 6 0) (m.ns.getD 7 0) (m.ns.getD 8 0) m.yes m.code m.hash (.bz 40 (m.es.map ownT)) (.bz 1 m.data)
theorem un_av (m : Ms) : m.un.av = m.ov := by show av15 _ _ _ _ _ _ _ _ _ _ _ _ _ (.bz 40 (m.un.es.map eT)) _ = _; rw [un_eT]; rfl
theorem k_PutMsgO (m : Ms) (hm : m.OK) : ACalls PP GG F.pack_PutMsg [m.ov] [] (PutR (putM m)) := by
  have h := k_PutMsg m.un (un_ok hm)
  rw [un_av, un_putM] at h
  exact h
theorem own_take (m : Ms) : List.take m.es.length (List.drop 0 (m.es.map ownT)) = m.es.map ownT := by rw [List.drop_zero, List.take_of_length_le (by simp)]
theorem own_take1 (m : Ms) : List.take m.data.length (List.drop 0 m.data) = m.data := by rw [List.drop_zero, List.take_length]
theorem entriesB_b : ∀ {es : List (En × Bool)}, (∀ p ∈ es, p.1.cmd.OK) → AllB (entriesB es)
  | [], _ => AllB.nil
  | p :: es, h => by
    show AllB (entryB p.1 ++ entriesB es)
    exact ((leB_b _ _).append (cmdB_b (h p (by simp)))).append (entriesB_b fun q hq => h q (by simp [hq]))
theorem nums_b (ns : List Int) : AllB (nums ns) := by
  induction ns with
  | nil => exact AllB.nil
  | cons n ns ih => rw [nums_cons]; exact (leB_b _ _).append ih
theorem mkB_b (y : Bool) : AllB (mkB y) := by cases y <;> exact AllB.cons (by decide) AllB.nil
theorem entriesB_len : ∀ {es : List (En × Bool)}, (∀ p ∈ es, p.1.cmd.OK) → (entriesB es).length ≤ tot es
  | [], _ => by simp [entriesB, tot]
  | p :: es, h => by
    have ih := entriesB_len (es := es) fun q hq => h q (by simp [hq])
    have e : tot (p :: es) = (80 + p.1.cmd.data.length) + tot es := by simp [tot]
    have h2 := entryB_len (h p (by simp))
    show (entryB p.1 ++ entriesB es).length ≤ _
    rw [List.length_append, e]; omega
theorem putM_b {m : Ms} (hm : m.OK) (ht : m.data.length + tot m.es ≤ 300000) : AllB (putM m).1 ∧ (putM m).1.length ≤ 300200 := by
  have hhl := Ms.head_len hm
  have hel := entriesB_len fun p hp => (hm.e p hp).1
  unfold putM
  split
  · exact ⟨AllB.nil, by simp⟩
  · refine ⟨?_, ?_⟩
    · have h1 : AllB m.head := ((((( AllB.cons hm.k AllB.nil).append (nums_b _)).append (mkB_b _)).append (leB_b _ _)).append hm.hb).append (leB_b _ _)
      exact (h1.append (entriesB_b fun p hp => (hm.e p hp).1)).append ((leB_b _ _).append hm.db)
    · show (m.head ++ entriesB m.es ++ (leB 4 m.data.length ++ m.data)).length ≤ _
      simp only [List.length_append, leB_len]
      omega
theorem zM_ok : zM.OK := ⟨by decide, rfl, zC_ok.hb, AllB.nil, by decide, fun p hp => absurd hp (by simp [zM]), by decide, rfl⟩
theorem takeM_ok {L : List Tr} (hL : AllB L) : (takeM L).1.OK := by
  unfold takeM
  split
  · exact (Rd.msg_b (r := ⟨L, 0⟩) hL).2.1
  · exact zM_ok
end Stk
