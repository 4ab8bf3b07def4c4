/- The plain law: messages there and back; cut forms. -/
import Derived.Test.YtliklkagieaoeaaQ1
namespace Stk
open Go
set_option maxRecDepth 100000
set_option linter.unusedSimpArgs false
set_option linter.unusedVariables false
set_option maxHeartbeats 4000000
structure Ms.IN (m : Ms) : Prop where
  k : 0 ≤ m.kind ∧ m.kind ≤ 255
  n : m.ns.length = 9
  ni : ∀ n ∈ m.ns, I64 n
  ci : I64 m.code
  h : m.hash.length = 32
  hb : AllB m.hash
  db : AllB m.data
  dl : m.data.length ≤ 65536
  e : ∀ p ∈ m.es, p.1.cmd.IN ∧ I64 p.1.term
  el : m.es.length ≤ 200
theorem Ms.WB.isIn {m : Ms} (h : m.WB) (hb : ¬ m.bad = true) : m.IN := by
  unfold Ms.bad at hb
  have hb : (decide ((m.es.length : Int) > 200) || m.es.any elong || decide ((m.data.length : Int) > 65536)) = false := by simpa using hb
  rw [Bool.or_eq_false_iff, Bool.or_eq_false_iff] at hb
  obtain ⟨⟨h1, h2⟩, h3⟩ := hb
  have h1 := of_decide_eq_false h1
  have h3 := of_decide_eq_false h3
  have h2 : ∀ x ∈ m.es, ¬ elong x = true := List.any_eq_false.1 h2
  refine ⟨h.k, h.n, h.ni, h.ci, h.h, h.hb, h.db, by omega, ?_, by omega⟩
  intro p hp
  have := h2 p hp
  unfold elong at this
  have := of_decide_eq_false (by simpa using this : decide ((p.1.cmd.data.length : Int) > 65536) = false)
  exact ⟨⟨(h.e p hp).1, by omega⟩, (h.e p hp).2.1⟩
theorem Ms.IN.ok {m : Ms} (h : m.IN) : m.OK :=
  ⟨h.k, h.h, h.hb, h.db, by have := h.dl; omega, fun p hp => ⟨(h.e p hp).1.ok (by have := (h.e p hp).1.dl; omega), by have := (h.e p hp).1.dl; omega⟩, by have := h.el; omega, h.n⟩
theorem Ms.IN.bad {m : Ms} (h : m.IN) : ¬ m.bad = true := by
  have h1 : decide ((m.es.length : Int) > 200) = false := decide_eq_false (by have := h.el; omega)
  have h3 : decide ((m.data.length : Int) > 65536) = false := decide_eq_false (by have := h.dl; omega)
  have h2 : m.es.any elong = false := List.any_eq_false.2 fun p hp => by
    have := (h.e p hp).1.dl
    unfold elong
    simp; omega
  unfold Ms.bad
  rw [h1, h2, h3]
  decide
theorem putM_in {m : Ms} (h : m.IN) : putM m = (msgB m, 0) := by
  unfold putM
  rw [if_neg h.bad]
theorem ents_put : ∀ (es : List (En × Bool)) (R : List Tr), (∀ p ∈ es, p.1.cmd.IN ∧ I64 p.1.term) → Rd.ents es.length ⟨entriesB es ++ R, 0⟩ = (⟨R, 0⟩, es.map fun p => (p.1, false))
  | [], R, _ => rfl
  | p :: es, R, h => by
    have e : entriesB (p :: es) ++ R = entryB p.1 ++ (entriesB es ++ R) := by simp [entriesB]
    rw [e, List.length_cons, Rd.ents, if_pos rfl, entry_put (h p (by simp)).1 (h p (by simp)).2, ents_put es R fun q hq => h q (by simp [hq])]
    rfl
theorem msgB_eq (kind : Int) (n0 n1 n2 n3 n4 n5 n6 n7 n8 : Int) (yes : Bool) (code : Int) (hash : List Tr) (es : List (En × Bool)) (data R : List Tr) :
    msgB ⟨kind, [n0, n1, n2, n3, n4, n5, n6, n7, n8], yes, code, hash, es, data⟩ ++ R = u8 kind :: (num n0 ++ (num n1 ++ (num n2 ++ (num n3 ++ (num n4 ++ (num n5 ++ (num n6 ++ (num n7 ++ (num n8 ++ (mkB yes ++ (num code ++ (hash ++ (leB 4 es.length ++ (entriesB es ++ (leB 4 data.length ++ (data ++ R)))))))))))))))) := by
  simp [msgB, Ms.head, nums]
theorem msg_put {m : Ms} (h : m.IN) (R : List Tr) : Rd.msg ⟨msgB m ++ R, 0⟩ = (⟨R, 0⟩, m.un) := by
  obtain ⟨kind, ns, yes, code, hash, es, data⟩ := m
  obtain ⟨n0, n1, n2, n3, n4, n5, n6, n7, n8, hns⟩ := nine h.n
  replace hns : ns = [n0, n1, n2, n3, n4, n5, n6, n7, n8] := hns
  subst hns
  have hi := h.ni
  have hk := h.k
  rw [msgB_eq]
  unfold Rd.msg Rd.hd Rd.nine Rd.nums
  rw [kind_put h.k, num_put (hi _ (by simp)), num_put (hi _ (by simp)), num_put (hi _ (by simp)), num_put (hi _ (by simp)), num_put (hi _ (by simp)), num_put (hi _ (by simp)), num_put (hi _ (by simp)), num_put (hi _ (by simp)), num_put (hi _ (by simp)), mark_put, num_put h.ci, hash_put h.h, count_put _ _ (by omega) h.el]
  have he := ents_put es (leB 4 data.length ++ (data ++ R)) h.e
  simp only
  rw [he, data_put h.dl]
  simp only [show IntKind.wrap .u8 kind = kind by rw [IntKind.wrap_u8]; have h1 : 0 ≤ kind ∧ kind ≤ 255 := hk; omega]
  rfl
theorem takeM_put {m : Ms} (h : m.IN) : takeM (msgB m) = (m.un, 0) := by
  have := msg_put h []
  rw [List.append_nil] at this
  unfold takeM
  rw [this]
  rfl
theorem takeM_more {m : Ms} (h : m.IN) (v : Tr) (R : List Tr) : takeM (msgB m ++ v :: R) = (zM, 5) := by
  unfold takeM
  rw [msg_put h]
  have : Rd.ends ⟨v :: R, 0⟩ = 5 := by unfold Rd.ends; rw [if_pos rfl, if_pos (by simp)]
  rw [this]
  rfl
theorem ents_get : ∀ (k : Nat) {r : Rd}, AllB r.b → (Rd.ents k r).1.e = 0 → r.e = 0 ∧ r.b = entriesB (Rd.ents k r).2 ++ (Rd.ents k r).1.b ∧ (Rd.ents k r).2.length = k ∧ ∀ p ∈ (Rd.ents k r).2, p.1.cmd.IN ∧ I64 p.1.term
  | 0, r, _, h => ⟨h, rfl, rfl, fun p hp => absurd hp (by simp [Rd.ents])⟩
  | k + 1, r, hr, h => by
    unfold Rd.ents at h ⊢
    by_cases he : r.e = 0
    · rw [if_pos he] at h ⊢
      obtain ⟨b1, -, -, -⟩ := Rd.ent_b hr
      obtain ⟨e2, g2, l2, k2⟩ := ents_get k b1 h
      obtain ⟨e1, g1, c1, t1⟩ := entry_get hr e2
      refine ⟨he, ?_, by simp [l2], ?_⟩
      · show r.b = entryB r.entry.2 ++ entriesB (Rd.ents k r.entry.1).2 ++ (Rd.ents k r.entry.1).1.b
        rw [List.append_assoc, ← g2]
        exact g1
      · intro p hp
        rcases List.mem_cons.1 hp with rfl | hp
        · exact ⟨c1, t1⟩
        · exact k2 p hp
    · rw [if_neg he] at h
      exact absurd h he
theorem msg_get {r : Rd} (hr : AllB r.b) (h : r.msg.1.e = 0) : r.e = 0 ∧ r.b = msgB r.msg.2 ++ r.msg.1.b ∧ r.msg.2.IN := by
  obtain ⟨b1, v1, -⟩ := Rd.fixed_b hr 1 (by omega)
  have b2 := (Rd.num_b b1).1
  have b3 := (Rd.num_b b2).1
  have b4 := (Rd.num_b b3).1
  have b5 := (Rd.num_b b4).1
  have b6 := (Rd.num_b b5).1
  have b7 := (Rd.num_b b6).1
  have b8 := (Rd.num_b b7).1
  have b9 := (Rd.num_b b8).1
  have b10 := (Rd.num_b b9).1
  have b11 := (Rd.mark_b b10).1
  have b12 := (Rd.num_b b11).1
  obtain ⟨b13, c13, c13', -⟩ := Rd.hash_b b12
  have b14 := (Rd.count_b b13 200).1
  obtain ⟨b15, -, -, -⟩ := Rd.ents_b r.hd.2 (r := r.hd.1) b14
  obtain ⟨-, c16, -, -⟩ := Rd.data_b b15
  obtain ⟨e15, g15, k15⟩ := data_get b15 h
  obtain ⟨e14, g14, l14, k14⟩ := ents_get r.hd.2 (r := r.hd.1) b14 e15
  obtain ⟨e13, g13, k13⟩ := count_get b13 e14
  obtain ⟨e12, g12⟩ := hash_get e13
  obtain ⟨e11, g11, k11⟩ := num_get b11 e12
  obtain ⟨e10, g10⟩ := mark_get b10 e11
  obtain ⟨e9, g9, k9⟩ := num_get b9 e10
  obtain ⟨e8, g8, k8⟩ := num_get b8 e9
  obtain ⟨e7, g7, k7⟩ := num_get b7 e8
  obtain ⟨e6, g6, k6⟩ := num_get b6 e7
  obtain ⟨e5, g5, k5⟩ := num_get b5 e6
  obtain ⟨e4, g4, k4⟩ := num_get b4 e5
  obtain ⟨e3, g3, k3⟩ := num_get b3 e4
  obtain ⟨e2, g2, k2⟩ := num_get b2 e3
  obtain ⟨e1, g1, k1⟩ := num_get b1 e2
  obtain ⟨e0, g0⟩ := fixed_get hr e1
  have v1' : 0 ≤ (r.fixed 1).2 ∧ (r.fixed 1).2 ≤ 255 := by rw [show (256 : Int) ^ 1 = 256 by decide] at v1; omega
  have hk : IntKind.wrap .u8 (r.fixed 1).2 = (r.fixed 1).2 := by rw [IntKind.wrap_u8]; omega
  have g14' : r.hd.1.b = entriesB (Rd.ents r.hd.2 r.hd.1).2 ++ (leB 4 (Rd.ents r.hd.2 r.hd.1).1.data.2.length ++ ((Rd.ents r.hd.2 r.hd.1).1.data.2 ++ r.msg.1.b)) := by
    rw [g14, g15, List.append_assoc]; rfl
  have g13' : ((r.fixed 1).1.num.1.num.1.num.1.num.1.num.1.num.1.num.1.num.1.num.1.mark.1.num.1.hash.1).b = leB 4 (Rd.ents r.hd.2 r.hd.1).2.length ++ r.hd.1.b := by
    rw [l14]; exact g13
  refine ⟨e0, ?_, ⟨by show 0 ≤ IntKind.wrap .u8 (r.fixed 1).2 ∧ IntKind.wrap .u8 (r.fixed 1).2 ≤ 255; rw [hk]; exact v1', rfl, ?_, k11, c13', c13, c16, k15, k14, by rw [show r.msg.2.es.length = (Rd.ents r.hd.2 r.hd.1).2.length from rfl, l14]; exact k13⟩⟩
  · have e : msgB r.msg.2 ++ r.msg.1.b = _ := msgB_eq (IntKind.wrap .u8 (r.fixed 1).2) (r.fixed 1).1.num.2 _ _ _ _ _ _ _ _ r.msg.2.yes r.msg.2.code r.msg.2.hash r.msg.2.es r.msg.2.data r.msg.1.b
    rw [e, hk, g0, kind_le v1', g1, g2, g3, g4, g5, g6, g7, g8, g9, g10, g11, g12, g13', g14']
    rfl
  · intro n hn
    have hn : n ∈ (r.fixed 1).1.nums := hn
    simp only [Rd.nums, List.mem_cons, List.not_mem_nil, or_false] at hn
    rcases hn with rfl | rfl | rfl | rfl | rfl | rfl | rfl | rfl | rfl
    · exact k1
    · exact k2
    · exact k3
    · exact k4
    · exact k5
    · exact k6
    · exact k7
    · exact k8
    · exact k9
theorem takeM_get {L : List Tr} (hL : AllB L) (h : (takeM L).2 = 0) : L = msgB (takeM L).1 ∧ (takeM L).1.IN := by
  unfold takeM at h ⊢
  by_cases he : (Rd.msg ⟨L, 0⟩).1.ends = 0
  · rw [if_pos he]
    obtain ⟨h1, h2⟩ := ends_zero he
    obtain ⟨-, g, k⟩ := msg_get (r := ⟨L, 0⟩) hL h1
    rw [h2, List.append_nil] at g
    exact ⟨g, k⟩
  · rw [if_neg he] at h
    exact absurd h he
theorem sm_un {a b : Ms} : a.un.sm b.un ↔ a.sm b := by
  unfold Ms.sm Ms.un
  simp only [List.map_map]
  exact Iff.rfl
theorem sm_forms {a b : Ms} (h : a.sm b) : msgB a = msgB b := by
  obtain ⟨h1, h2, h3, h4, h5, h6, h7⟩ := h
  have e1 : a.es.length = b.es.length := by have := congrArg List.length h7; simpa using this
  have e2 : entriesB a.es = entriesB b.es := by
    have e : ∀ l : List (En × Bool), entriesB l = ((l.map Prod.fst).map entryB).flatten := fun l => by simp [entriesB]; rfl
    rw [e, e, h7]
  unfold msgB Ms.head
  rw [h1, h2, h3, h4, h5, h6, e1, e2]
theorem forms_sm {a b : Ms} (ha : a.IN) (hb : b.IN) (R : List Tr) (h : msgB b = msgB a ++ R) : a.sm b ∧ R = [] := by
  have h1 := msg_put hb []
  rw [List.append_nil, h, msg_put ha R] at h1
  have e1 : R = [] := congrArg (fun p : Rd × Ms => p.1.b) h1
  have e2 : a.un = b.un := congrArg Prod.snd h1
  exact ⟨sm_un.1 (by rw [e2]; exact Ms.sm_refl _), e1⟩
/-! forms that are cut -/
theorem take_err {r : Rd} (h : r.e ≠ 0) (n : Nat) : r.take n = (r, []) := by unfold Rd.take; rw [if_pos h]
theorem fixed_err {r : Rd} (h : r.e ≠ 0) (k : Nat) : (r.fixed k) = (r, 0) := by unfold Rd.fixed; rw [take_err h]; rfl
/-- A step that reads a form: what it leaves of a form that is cut, and of one that is whole. -/
structure Rds (f : Rd → Rd) (A : List Tr) : Prop where
  err : ∀ r : Rd, r.e ≠ 0 → f r = r
  cut : ∀ T : List Tr, T <+: A → T ≠ A → (f ⟨T, 0⟩).e = 4
  all : ∀ R : List Tr, f ⟨A ++ R, 0⟩ = ⟨R, 0⟩
theorem prefix_cases {T A B : List Tr} (h : T <+: A ++ B) : (T <+: A ∧ T ≠ A) ∨ ∃ T', T = A ++ T' ∧ T' <+: B := by
  by_cases hl : T.length < A.length
  · exact .inl ⟨List.prefix_of_prefix_length_le h (List.prefix_append A B) (by omega), fun e => by rw [e] at hl; omega⟩
  · obtain ⟨T', rfl⟩ := List.prefix_of_prefix_length_le (List.prefix_append A B) h (by omega)
    exact .inr ⟨T', rfl, (List.prefix_append_right_inj A).1 h⟩
theorem prefix_short {T A : List Tr} (h : T <+: A) (hne : T ≠ A) : T.length < A.length := by
  have h1 := h.length_le
  rcases Nat.lt_or_ge T.length A.length with h2 | h2
  · exact h2
  · exact absurd (h.eq_of_length (by omega)) hne
theorem Rds.comp {f g : Rd → Rd} {A B : List Tr} (hf : Rds f A) (hg : Rds g B) : Rds (fun r => g (f r)) (A ++ B) := by
  refine ⟨fun r h => by show g (f r) = r; rw [hf.err r h, hg.err r h], ?_, fun R => by show g (f _) = _; rw [List.append_assoc, hf.all, hg.all]⟩
  intro T hT hne
  rcases prefix_cases hT with h | ⟨T', rfl, h'⟩
  · have h4 := hf.cut T h.1 h.2
    show (g (f ⟨T, 0⟩)).e = 4
    rw [hg.err _ (by rw [h4]; decide)]
    exact h4
  · show (g (f _)).e = 4
    rw [hf.all]
    exact hg.cut T' h' (fun e => hne (by rw [e]))
theorem rds_take {A : List Tr} {n : Nat} (h : A.length = n) : Rds (fun r => (r.take n).1) A := by
  refine ⟨fun r hr => by show (r.take n).1 = r; rw [take_err hr], ?_, fun R => by show (Rd.take _ n).1 = _; rw [take_put _ _ _ h]⟩
  intro T hT hne
  have hl := prefix_short hT hne
  show (Rd.take ⟨T, 0⟩ n).1.e = 4
  unfold Rd.take
  rw [if_neg (by simp), if_pos (by show n > T.length; omega)]
theorem rds_num (n : Int) : Rds (fun r => r.num.1) (num n) := rds_take (num_len n)
theorem rds_kind (k : Int) : Rds (fun r => (r.fixed 1).1) [u8 k] := rds_take rfl
theorem rds_hash {hs : List Tr} (h : hs.length = 32) : Rds (fun r => r.hash.1) hs := rds_take h
theorem rds_mark (y : Bool) : Rds (fun r => r.mark.1) (mkB y) := by
  refine ⟨fun r hr => by show r.mark.1 = r; unfold Rd.mark; rw [fixed_err hr]; rfl, ?_, fun R => by show (Rd.mark _).1 = _; rw [mark_put]⟩
  intro T hT hne
  have hl := prefix_short hT hne
  obtain rfl : T = [] := List.eq_nil_of_length_eq_zero (by have : (mkB y).length = 1 := rfl; omega)
  rfl
theorem count_err {r : Rd} (h : r.e ≠ 0) (most : Nat) : r.count most = (r, 0) := by
  unfold Rd.count
  rw [fixed_err h, if_neg (by show ¬ (0 : Int) > most; omega)]
  rfl
theorem count_cut {n most : Nat} {T : List Tr} (h : T <+: leB 4 n) (hne : T ≠ leB 4 n) : Rd.count ⟨T, 0⟩ most = (⟨T, 4⟩, 0) := by
  have hl := prefix_short h hne
  rw [leB_len] at hl
  have hf : Rd.fixed ⟨T, 0⟩ 4 = (⟨T, 4⟩, 0) := by
    unfold Rd.fixed Rd.take
    rw [if_neg (by simp), if_pos (by show 4 > T.length; omega)]
    rfl
  unfold Rd.count
  rw [hf, if_neg (by show ¬ (0 : Int) > most; omega)]
  rfl
theorem rds_data {d : List Tr} (h : d.length ≤ 65536) : Rds (fun r => r.data.1) (leB 4 d.length ++ d) := by
  refine ⟨fun r hr => by show r.data.1 = r; unfold Rd.data; rw [count_err hr]; rw [take_err hr], ?_, fun R => by show (Rd.data _).1 = _; rw [List.append_assoc, data_put h]⟩
  intro T hT hne
  rcases prefix_cases hT with ⟨h1, h2⟩ | ⟨T', rfl, h'⟩
  · show (Rd.data ⟨T, 0⟩).1.e = 4
    unfold Rd.data
    rw [count_cut h1 h2, take_err (by show (4 : Int) ≠ 0; decide)]
  · show (Rd.data ⟨_, 0⟩).1.e = 4
    unfold Rd.data
    rw [count_put _ _ (by omega) h]
    exact (rds_take rfl).cut T' h' (fun e => hne (by rw [e]))
theorem rds_cmd {c : Cm} (h : c.IN) : Rds (fun r => r.cmd.1) (cmdB c) := by
  have k := (((((((rds_kind c.kind).comp (rds_num c.client)).comp (rds_num c.seq)).comp (rds_num c.node)).comp (rds_num c.epoch)).comp (rds_mark c.yes)).comp (rds_hash h.h)).comp (rds_data h.dl)
  have e : [u8 c.kind] ++ num c.client ++ num c.seq ++ num c.node ++ num c.epoch ++ mkB c.yes ++ c.hash ++ (leB 4 c.data.length ++ c.data) = cmdB c := by simp [cmdB, Cm.head, nums]
  rw [e] at k
  exact k
theorem rds_entry {x : En} (h : x.cmd.IN) : Rds (fun r => r.entry.1) (entryB x) := (rds_num x.term).comp (rds_cmd h)
theorem ents_err {r : Rd} (h : r.e ≠ 0) : ∀ k, Rd.ents k r = (r, [])
  | 0 => rfl
  | k + 1 => by rw [Rd.ents, if_neg h]
theorem ents_cut : ∀ (es : List (En × Bool)), (∀ p ∈ es, p.1.cmd.IN ∧ I64 p.1.term) → ∀ T : List Tr, T <+: entriesB es → T ≠ entriesB es → (Rd.ents es.length ⟨T, 0⟩).1.e = 4
  | [], _, T, hT, hne => absurd (List.prefix_nil.1 hT) hne
  | p :: es, h, T, hT, hne => by
    have e : entriesB (p :: es) = entryB p.1 ++ entriesB es := by simp [entriesB]
    rw [e] at hT hne
    rw [List.length_cons, Rd.ents, if_pos rfl]
    have hp := h p (by simp)
    rcases prefix_cases hT with ⟨h1, h2⟩ | ⟨T', rfl, h'⟩
    · have h4 : (Rd.entry ⟨T, 0⟩).1.e = 4 := (rds_entry hp.1).cut T h1 h2
      show (Rd.ents es.length (Rd.entry ⟨T, 0⟩).1).1.e = 4
      rw [ents_err (by rw [h4]; decide)]
      exact h4
    · show (Rd.ents es.length (Rd.entry ⟨entryB p.1 ++ T', 0⟩).1).1.e = 4
      rw [entry_put hp.1 hp.2]
      exact ents_cut es (fun q hq => h q (by simp [hq])) T' h' (fun e => hne (by rw [e]))
theorem rds_ents {es : List (En × Bool)} (h : ∀ p ∈ es, p.1.cmd.IN ∧ I64 p.1.term) (hl : es.length ≤ 200) : Rds (fun r => (Rd.ents (r.count 200).2 (r.count 200).1).1) (leB 4 es.length ++ entriesB es) := by
  refine ⟨fun r hr => by show (Rd.ents (r.count 200).2 (r.count 200).1).1 = r; rw [count_err hr]; rfl, ?_, fun R => ?_⟩
  · intro T hT hne
    show (Rd.ents (Rd.count ⟨T, 0⟩ 200).2 (Rd.count ⟨T, 0⟩ 200).1).1.e = 4
    rcases prefix_cases hT with ⟨h1, h2⟩ | ⟨T', rfl, h'⟩
    · rw [count_cut h1 h2]; rfl
    · rw [count_put _ _ (by omega) hl]
      exact ents_cut es h T' h' (fun e => hne (by rw [e]))
  · show (Rd.ents (Rd.count _ 200).2 (Rd.count _ 200).1).1 = _
    rw [List.append_assoc, count_put _ _ (by omega) hl]
    show (Rd.ents es.length ⟨entriesB es ++ R, 0⟩).1 = _
    rw [ents_put es R h]
theorem rds_msg {m : Ms} (h : m.IN) : Rds (fun r => r.msg.1) (msgB m) := by
  obtain ⟨kind, ns, yes, code, hash, es, data⟩ := m
  obtain ⟨n0, n1, n2, n3, n4, n5, n6, n7, n8, hns⟩ := nine h.n
  replace hns : ns = [n0, n1, n2, n3, n4, n5, n6, n7, n8] := hns
  subst hns
  have k := ((((((((((((((rds_kind kind).comp (rds_num n0)).comp (rds_num n1)).comp (rds_num n2)).comp (rds_num n3)).comp (rds_num n4)).comp (rds_num n5)).comp (rds_num n6)).comp (rds_num n7)).comp (rds_num n8)).comp (rds_mark yes)).comp (rds_num code)).comp (rds_hash h.h)).comp (rds_ents h.e h.el)).comp (rds_data h.dl)
  have e : [u8 kind] ++ num n0 ++ num n1 ++ num n2 ++ num n3 ++ num n4 ++ num n5 ++ num n6 ++ num n7 ++ num n8 ++ mkB yes ++ num code ++ hash ++ (leB 4 es.length ++ entriesB es) ++ (leB 4 data.length ++ data) = msgB ⟨kind, [n0, n1, n2, n3, n4, n5, n6, n7, n8], yes, code, hash, es, data⟩ := by simp [msgB, Ms.head, nums]
  have k2 : Rds (fun r => r.msg.1) ([u8 kind] ++ num n0 ++ num n1 ++ num n2 ++ num n3 ++ num n4 ++ num n5 ++ num n6 ++ num n7 ++ num n8 ++ mkB yes ++ num code ++ hash ++ (leB 4 es.length ++ entriesB es) ++ (leB 4 data.length ++ data)) := k
  rw [e] at k2
  exact k2
theorem takeM_cut {m : Ms} (h : m.IN) {T : List Tr} (hT : T <+: msgB m) (hne : T ≠ msgB m) : takeM T = (zM, 4) := by
  have h4 : (Rd.msg ⟨T, 0⟩).1.e = 4 := (rds_msg h).cut T hT hne
  have he : (Rd.msg ⟨T, 0⟩).1.ends = 4 := by unfold Rd.ends; rw [h4, if_neg (by decide)]
  unfold takeM
  rw [he]
  rfl
end Stk
