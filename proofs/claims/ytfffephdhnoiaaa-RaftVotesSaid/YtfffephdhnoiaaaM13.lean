/- The plain law of votes: terms, votes, what is sure, messages. -/
import Derived.Test.YtfffephdhnoiaaaM11
import Derived.Test.YtfffephdhnoiaaaM12
namespace Stk
open Go
set_option maxRecDepth 100000
set_option linter.unusedSimpArgs false
set_option linter.unusedVariables false
set_option maxHeartbeats 4000000
theorem terms_iff : ∀ {L : List En} {a m : Int}, termsOK L a m = true ↔ (∀ e ∈ L, 1 ≤ e.term ∧ a ≤ e.term ∧ e.term ≤ m) ∧ L.Pairwise (fun x y => x.term ≤ y.term)
  | [], a, m => by simp [termsOK]
  | e :: r, a, m => by
    unfold termsOK
    constructor
    · intro h
      split at h
      · cases h
      · rename_i hx
        obtain ⟨h1, h2⟩ := terms_iff.1 h
        refine ⟨fun x hx' => ?_, List.pairwise_cons.2 ⟨fun y hy => (h1 y hy).2.1, h2⟩⟩
        rcases List.mem_cons.1 hx' with rfl | hx'
        · omega
        · have := h1 x hx'; omega
    · rintro ⟨h1, h2⟩
      obtain ⟨h3, h4⟩ := List.pairwise_cons.1 h2
      have := h1 e (by simp)
      rw [if_neg (by omega)]
      exact terms_iff.2 ⟨fun x hx => by have := h1 x (by simp [hx]); have := h3 x hx; omega, h4⟩
theorem terms_owned : ∀ {L : List En} {a m : Int}, termsOK (owned L) a m = termsOK L a m
  | [], _, _ => rfl
  | e :: r, a, m => by
    show termsOK (e.own :: owned r) a m = _
    unfold termsOK
    rw [terms_owned]; rfl
theorem terms_mono {L : List En} {a m m' : Int} (h : termsOK L a m = true) (hm : m ≤ m') : termsOK L a m' = true := by
  obtain ⟨h1, h2⟩ := terms_iff.1 h
  exact terms_iff.2 ⟨fun e he => by have := h1 e he; omega, h2⟩
theorem terms_snoc {L : List En} {m : Int} (h : termsOK L 1 m = true) (hm : 1 ≤ m) (c : Cm) : termsOK (L ++ [⟨m, c⟩]) 1 m = true := by
  obtain ⟨h1, h2⟩ := terms_iff.1 h
  refine terms_iff.2 ⟨fun e he => ?_, List.pairwise_append.2 ⟨h2, by simp, fun x hx y hy => ?_⟩⟩
  · rcases List.mem_append.1 he with he | he
    · exact h1 e he
    · simp at he; subst he; dsimp only; omega
  · simp at hy; subst hy; exact (h1 x hx).2.2
theorem agree_spec {L : List En} {a : Int} : ∀ {es : List En} {k : Nat}, k ≤ agree L a es k ∧ agree L a es k ≤ k + es.length ∧ ∀ j, k ≤ j → j < agree L a es k → ∃ e, es[j - k]? = some e ∧ termAt L (a + j + 1) = e.term
  | [], k => by simp [agree]
  | e :: r, k => by
    unfold agree
    split
    · rename_i he
      obtain ⟨h1, h2, h3⟩ := agree_spec (L := L) (a := a) (es := r) (k := k + 1)
      refine ⟨by omega, by simp; omega, fun j hj hj2 => ?_⟩
      rcases Nat.lt_or_ge k j with hk | hk
      · obtain ⟨x, hx, hx2⟩ := h3 j (by omega) hj2
        exact ⟨x, by rw [show j - k = (j - (k + 1)) + 1 by omega]; simpa using hx, hx2⟩
      · obtain rfl : j = k := by omega
        exact ⟨e, by simp, he⟩
    · exact ⟨Nat.le_refl _, by simp, fun j h1 h2 => by omega⟩
theorem termAt_get {L : List En} {i : Nat} {e : En} (h : L[i]? = some e) : termAt L ((i : Int) + 1) = e.term := by
  have hi := (List.getElem?_eq_some_iff.1 h).1
  unfold termAt
  rw [if_neg (by omega), show ((i : Int) + 1 - 1).toNat = i by omega, h]; rfl
theorem terms_take {L es : List En} {idx prev T : Int} (hL : termsOK L 1 T = true) (hes : termsOK es prev T = true) (h0 : 0 ≤ idx) (h1 : idx ≤ L.length) (hp : termAt L idx = prev) (J : Nat) :
    termsOK (L.take (idx + agree L idx es 0).toNat ++ owned ((es.drop (agree L idx es 0)).take J)) 1 T = true := by
  obtain ⟨_, hK, hag⟩ := agree_spec (L := L) (a := idx) (es := es) (k := 0)
  generalize agree L idx es 0 = K at *
  obtain ⟨p1, p2⟩ := terms_iff.1 hL
  obtain ⟨q1, q2⟩ := terms_iff.1 hes
  have ho : termsOK (owned ((es.drop K).take J)) 1 T = true := by
    rw [terms_owned]
    refine terms_iff.2 ⟨fun e he => ?_, (q2.sublist (List.drop_sublist _ _)).sublist (List.take_sublist _ _)⟩
    have := q1 e (List.mem_of_mem_drop (List.mem_of_mem_take he)); omega
  obtain ⟨o1, o2⟩ := terms_iff.1 ho
  refine terms_iff.2 ⟨fun e he => ?_, List.pairwise_append.2 ⟨p2.sublist (List.take_sublist _ _), o2, fun x hx y hy => ?_⟩⟩
  · rcases List.mem_append.1 he with he | he
    · exact p1 e (List.mem_of_mem_take he)
    · exact o1 e he
  · -- y comes out of es at K or later
    obtain ⟨y0, hy0, hyt⟩ : ∃ y0 ∈ es.drop K, y.term = y0.term := by
      simp only [owned, List.mem_map] at hy
      obtain ⟨y0, h, rfl⟩ := hy
      exact ⟨y0, List.mem_of_mem_take h, rfl⟩
    rw [hyt]
    obtain ⟨i, hi⟩ := List.mem_iff_getElem?.1 hx
    have hil : i < (idx + K).toNat := by
      have := (List.getElem?_eq_some_iff.1 hi).1
      simp at this; omega
    rw [List.getElem?_take_of_lt hil] at hi
    have hiL := (List.getElem?_eq_some_iff.1 hi).1
    rcases Nat.eq_zero_or_pos K with hk | hk
    · subst hk
      -- x.term ≤ prev
      have hidx : (idx - 1).toNat < L.length := by omega
      have hl : L[(idx - 1).toNat]? = some L[(idx - 1).toNat] := List.getElem?_eq_getElem hidx
      have ht := termAt_get hl
      rw [show (((idx - 1).toNat : Nat) : Int) + 1 = idx by omega, hp] at ht
      have hle : x.term ≤ L[(idx - 1).toNat].term := by
        rcases Nat.lt_or_ge i (idx - 1).toNat with h | h
        · have := List.pairwise_iff_getElem.1 p2 i (idx - 1).toNat hiL hidx h
          rw [List.getElem?_eq_getElem hiL] at hi
          rw [← Option.some.inj hi]; exact this
        · have : i = (idx - 1).toNat := by omega
          subst this
          rw [List.getElem?_eq_getElem hiL] at hi
          rw [← Option.some.inj hi]; exact Int.le_refl _
      have := (q1 y0 (List.mem_of_mem_drop hy0)).2.1
      omega
    · obtain ⟨e, he, het⟩ := hag (K - 1) (by omega) (by omega)
      rw [Nat.sub_zero] at he
      have he1 := (q1 e (List.mem_of_getElem? he)).1
      have hpos := termAt_pos (L := L) (a := idx + ((K - 1 : Nat) : Int) + 1) (by omega)
      have hidx : (idx + K).toNat - 1 < L.length := by omega
      have hl : L[(idx + K).toNat - 1]? = some L[(idx + K).toNat - 1] := List.getElem?_eq_getElem hidx
      have ht := termAt_get hl
      rw [show ((((idx + K).toNat - 1 : Nat)) : Int) + 1 = idx + ((K - 1 : Nat) : Int) + 1 by omega, het] at ht
      have hle : x.term ≤ L[(idx + K).toNat - 1].term := by
        rcases Nat.lt_or_ge i ((idx + K).toNat - 1) with h | h
        · have := List.pairwise_iff_getElem.1 p2 i ((idx + K).toNat - 1) hiL hidx h
          rw [List.getElem?_eq_getElem hiL] at hi
          rw [← Option.some.inj hi]; exact this
        · have : i = (idx + K).toNat - 1 := by omega
          subst this
          rw [List.getElem?_eq_getElem hiL] at hi
          rw [← Option.some.inj hi]; exact Int.le_refl _
      obtain ⟨j, hj⟩ := List.mem_iff_getElem?.1 hy0
      rw [List.getElem?_drop] at hj
      have hjl := (List.getElem?_eq_some_iff.1 hj).1
      have hel := (List.getElem?_eq_some_iff.1 he).1
      have := List.pairwise_iff_getElem.1 q2 (K - 1) (K + j) hel hjl (by omega)
      rw [List.getElem?_eq_getElem hel] at he
      rw [List.getElem?_eq_getElem hjl] at hj
      rw [Option.some.inj he, Option.some.inj hj] at this
      omega
/-- What a call does to a server. -/
structure Ev (n n' : Nd) (ms : List Mo) : Prop where
  me : n'.me = n.me
  sv : n'.sv = n.sv
  term : n.term ≤ n'.term
  vote : n'.term = n.term → n.vote ≠ 0 → n'.vote = n.vote
  commit : n.commit ≤ n'.commit
  inv : n'.Inv
  left : 1 ≤ n'.left
  msg : ∀ o ∈ ms, o.frm = n.me ∧ o.to ≠ n.me ∧ 1 ≤ o.to ∧ o.to ≤ n.sv ∧ o.term = n'.term ∧ (o.kind = 2 → o.yes = true → n'.vote = o.to)
theorem sureC_le (n : Nd) : ∀ a, n.commit ≤ sureC n a ∧ (sureC n a ≤ n.commit ∨ sureC n a ≤ a)
  | 0 => ⟨Int.le_refl _, .inl (Int.le_refl _)⟩
  | a + 1 => by
    have := sureC_le n a
    unfold sureC
    split
    · split
      · omega
      · omega
    · exact ⟨Int.le_refl _, .inl (Int.le_refl _)⟩
theorem upTo_mem {me : Int} {f : Int → Mo} : ∀ {k : Nat} {o : Mo}, o ∈ upTo me f k → ∃ t : Int, o = f t ∧ 1 ≤ t ∧ t ≤ k ∧ t ≠ me
  | 0, o, h => by cases h
  | k + 1, o, h => by
    unfold upTo at h
    split at h
    · obtain ⟨t, h1, h2, h3, h4⟩ := upTo_mem h; exact ⟨t, h1, h2, by omega, h4⟩
    · rename_i hk
      rcases List.mem_append.1 h with h | h
      · obtain ⟨t, h1, h2, h3, h4⟩ := upTo_mem h; exact ⟨t, h1, h2, by omega, h4⟩
      · simp at h
        exact ⟨((k + 1 : Nat) : Int), by simpa using h, by omega, by omega, hk⟩
theorem inv_sure {n : Nd} (h : n.Inv) : n.sure.Inv := by
  have := sureC_le n n.log.length
  have h1 := h.li.hc
  have h2 := h.c2
  have h3 := h.l2
  exact ⟨⟨h.li.ho, h.li.hl, h.li.hsv, by show 0 ≤ sureC n _; omega, h.li.hn, h.li.hm, h.li.ht⟩, h.l2, by show sureC n _ ≤ 200; omega, h.me, h.vote, h.left, h.tm, h.lead, h.cand⟩
theorem repl_nx {v : Int} {to : Int} (h : 0 ≤ to ∧ to < 6) : ((List.replicate 6 v)[to.toNat]?).getD 0 = v := by
  rw [List.getElem?_replicate, if_pos (by omega)]; rfl
theorem inv_lead {n : Nd} (h : n.Inv) (ht : 1 ≤ n.term) : n.leadN.Inv := by
  have hsv := h.li.hsv
  refine inv_sure ?_
  unfold Nd.lead2
  split
  · rename_i hl
    refine ⟨⟨fun e he => ?_, by simp; omega, hsv, h.li.hc, by simp [Nd.lead1], by simp [Nd.lead1], h.li.ht⟩, by simp; omega, h.c2, h.me, h.vote, h.left, terms_snoc h.tm ht _, fun _ to hto => ?_, fun h => by simp [Nd.lead1] at h⟩
    · rcases List.mem_append.1 he with he | he
      · exact h.li.ho e he
      · rw [List.mem_singleton.1 he]; show ([] : List Tr).length ≤ 2 ^ 47; decide
    · have hto : 1 ≤ to ∧ to ≤ n.sv := hto
      have e1 : Nd.nx { n.lead1 with log := n.log ++ [⟨n.term, zCm⟩] } to = (n.log.length : Int) + 1 := repl_nx (by omega)
      have e2 : Nd.mt { n.lead1 with log := n.log ++ [⟨n.term, zCm⟩] } to = 0 := repl_nx (by omega)
      rw [e1, e2]
      simp; omega
  · rename_i hl
    refine ⟨⟨h.li.ho, h.li.hl, hsv, h.li.hc, by simp [Nd.lead1], by simp [Nd.lead1], h.li.ht⟩, h.l2, h.c2, h.me, h.vote, h.left, h.tm, fun _ to hto => ?_, fun h => by simp [Nd.lead1] at h⟩
    have hto : 1 ≤ to ∧ to ≤ n.sv := hto
    have e1 : Nd.nx n.lead1 to = (n.log.length : Int) + 1 := repl_nx (by omega)
    have e2 : Nd.mt n.lead1 to = 0 := repl_nx (by omega)
    rw [e1, e2]
    show (_ ∧ _ ≤ (n.log.length : Int) + 1) ∧ _ ∧ _ ≤ (n.log.length : Int)
    omega
theorem leadN_same (n : Nd) : n.leadN.me = n.me ∧ n.leadN.sv = n.sv ∧ n.leadN.term = n.term ∧ n.leadN.vote = n.vote ∧ n.leadN.left = n.left ∧ n.commit ≤ n.leadN.commit := by
  have : n.lead2.me = n.me ∧ n.lead2.sv = n.sv ∧ n.lead2.term = n.term ∧ n.lead2.vote = n.vote ∧ n.lead2.left = n.left ∧ n.lead2.commit = n.commit := by
    unfold Nd.lead2; split <;> exact ⟨rfl, rfl, rfl, rfl, rfl, rfl⟩
  obtain ⟨h1, h2, h3, h4, h6, h5⟩ := this
  refine ⟨h1, h2, h3, h4, h6, ?_⟩
  have := (sureC_le n.lead2 n.lead2.log.length).1
  rw [h5] at this; exact this
theorem apps_msg {n : Nd} (hsv : 1 ≤ n.sv) : ∀ o ∈ n.apps, o.frm = n.me ∧ o.to ≠ n.me ∧ 1 ≤ o.to ∧ o.to ≤ n.sv ∧ o.term = n.term ∧ (o.kind = 2 → o.yes = true → n.vote = o.to) := by
  intro o ho
  obtain ⟨t, rfl, h2, h3, h4⟩ := upTo_mem ho
  exact ⟨rfl, h4, h2, by show t ≤ _; omega, rfl, fun h => by simp [Nd.appM] at h⟩
theorem pat_le (d : Int) : 10 ≤ pat d ∧ pat d ≤ 19 := by
  have h1 : -10 < d.tmod 10 ∧ d.tmod 10 < 10 := ⟨by have := Int.tmod_lt_of_pos (-d) (by decide : (0:Int) < 10); rw [Int.neg_tmod] at this; omega, Int.tmod_lt_of_pos d (by decide)⟩
  have h2 : 0 ≤ (d.tmod 10 + 10).tmod 10 ∧ (d.tmod 10 + 10).tmod 10 < 10 := ⟨Int.tmod_nonneg _ (by omega), Int.tmod_lt_of_pos _ (by decide)⟩
  unfold pat; omega
theorem ev_lead {n0 n : Nd} (h : n.Inv) (ht : 1 ≤ n.term) (e1 : n.me = n0.me) (e2 : n.sv = n0.sv) (e3 : n0.term ≤ n.term) (e4 : n.term = n0.term → n0.vote ≠ 0 → n.vote = n0.vote) (e5 : n0.commit ≤ n.commit) (e6 : 1 ≤ n.left) : Ev n0 n.leadN n.leadN.apps := by
  obtain ⟨h1, h2, h3, h4, h6, h5⟩ := leadN_same n
  have hm := apps_msg (n := n.leadN) (by rw [h2]; exact h.li.hsv.1)
  exact ⟨h1.trans e1, h2.trans e2, by rw [h3]; exact e3, fun a b => by rw [h4]; exact e4 (by rw [← h3]; exact a) b, Int.le_trans e5 h5, inv_lead h ht, by rw [h6]; exact e6, fun o ho => by
    obtain ⟨g1, g2, g3, g4, g5, g6⟩ := hm o ho
    exact ⟨by rw [g1, h1, e1], by rw [← e1, ← h1]; exact g2, g3, by rw [← e2, ← h2]; exact g4, g5, g6⟩⟩
theorem ev_stand {n : Nd} (h : n.Inv) (ht : n.term < 1099511627776) (d : Int) : Ev n (n.stand (pat d)).1 (n.stand (pat d)).2 := by
  have hp := pat_le d
  have hi : (n.stand1 (pat d)).Inv := ⟨⟨h.li.ho, h.li.hl, h.li.hsv, h.li.hc, h.li.hn, h.li.hm, by have := h.li.ht; show 0 ≤ n.term + 1 ∧ n.term + 1 ≤ _; omega⟩, h.l2, h.c2, h.me, by have := h.me; show 0 ≤ n.me ∧ n.me ≤ n.sv; omega, by show 0 ≤ pat d ∧ pat d ≤ 19; omega, terms_mono h.tm (by show n.term ≤ n.term + 1; omega), fun h => by simp [Nd.stand1] at h, fun _ => ⟨[n.me], rfl, by simp, fun k hk => by simp at hk; subst hk; exact h.me⟩⟩
  have h0 := h.li.ht
  unfold Nd.stand
  split
  · exact ev_lead hi (by show 1 ≤ n.term + 1; omega) rfl rfl (by show n.term ≤ n.term + 1; omega) (fun e => by have : n.term + 1 = n.term := e; omega) (Int.le_refl _) (by show 1 ≤ pat d; omega)
  · refine ⟨rfl, rfl, by show n.term ≤ n.term + 1; omega, fun e => by have : n.term + 1 = n.term := e; omega, Int.le_refl _, hi, by show 1 ≤ pat d; omega, fun o ho => ?_⟩
    obtain ⟨t, rfl, h2, h3, h4⟩ := upTo_mem ho
    have := h.li.hsv
    exact ⟨rfl, h4, h2, by show t ≤ _; omega, rfl, fun h => by simp [Nd.askM] at h⟩
theorem inv_left {n : Nd} (h : n.Inv) {l : Int} (hl : 0 ≤ l ∧ l ≤ 19) : Nd.Inv { n with left := l } :=
  ⟨⟨h.li.ho, h.li.hl, h.li.hsv, h.li.hc, h.li.hn, h.li.hm, h.li.ht⟩, h.l2, h.c2, h.me, h.vote, hl, h.tm, h.lead, h.cand⟩
theorem ev_tick {n : Nd} (h : n.Inv) (hlf : 1 ≤ n.left) (d : Int) : Ev n (n.tick d).1 (n.tick d).2 := by
  have hp := pat_le d
  have hl := h.left
  unfold Nd.tick
  split
  · exact ⟨rfl, rfl, Int.le_refl _, fun _ _ => rfl, Int.le_refl _, h, hlf, apps_msg h.li.hsv.1⟩
  · rename_i hr
    split
    · exact ⟨rfl, rfl, Int.le_refl _, fun _ _ => rfl, Int.le_refl _, inv_left h (by omega), by show 1 ≤ n.left - 1; omega, by simp⟩
    · split
      · exact ⟨rfl, rfl, Int.le_refl _, fun _ _ => rfl, Int.le_refl _, inv_left h (by omega), by show 1 ≤ pat d; omega, by simp⟩
      · rename_i ht
        have h0 := h.li.ht
        have := ev_stand (n := { n with left := n.left - 1 }) (inv_left h (by omega)) (by show n.term < _; omega) d
        exact ⟨this.me, this.sv, this.term, this.vote, this.commit, this.inv, this.left, this.msg⟩
theorem addK_range {k sv : Int} {ks : List Int} (h : ∀ x ∈ ks, 1 ≤ x ∧ x ≤ sv) (hk : 1 ≤ k ∧ k ≤ sv) : ∀ x ∈ addK k ks, 1 ≤ x ∧ x ≤ sv := fun x hx => (addK_mem hx).elim (h x) (fun e => e ▸ hk)
theorem inv_tk1 {n : Nd} (h : n.Inv) {m : Mi} (hm : n.May m) : (n.tk1 m).Inv := by
  unfold Nd.tk1
  split
  · rename_i ht
    have := hm.term
    exact ⟨⟨h.li.ho, h.li.hl, h.li.hsv, h.li.hc, h.li.hn, h.li.hm, by show 0 ≤ m.term ∧ m.term ≤ _; omega⟩, h.l2, h.c2, h.me, by have := h.li.hsv; show (0:Int) ≤ 0 ∧ 0 ≤ n.sv; omega, h.left, terms_mono h.tm (by show n.term ≤ m.term; omega), fun h => (by cases h), fun h => (by cases h)⟩
  · exact h
theorem tk1_ev {n : Nd} (m : Mi) : (n.tk1 m).me = n.me ∧ (n.tk1 m).sv = n.sv ∧ n.term ≤ (n.tk1 m).term ∧ ((n.tk1 m).term = n.term → n.vote ≠ 0 → (n.tk1 m).vote = n.vote) ∧ (n.tk1 m).commit = n.commit ∧ (n.tk1 m).left = n.left ∧ m.term ≤ (n.tk1 m).term := by
  unfold Nd.tk1
  split
  · rename_i ht
    exact ⟨rfl, rfl, by show n.term ≤ m.term; omega, fun e => by have : m.term = n.term := e; omega, rfl, rfl, Int.le_refl _⟩
  · exact ⟨rfl, rfl, Int.le_refl _, fun _ _ => rfl, rfl, rfl, by omega⟩
theorem Ev.after {n n1 n2 : Nd} {ms : List Mo} (h : Ev n1 n2 ms) (e1 : n1.me = n.me) (e2 : n1.sv = n.sv) (e3 : n.term ≤ n1.term) (e4 : n1.term = n.term → n.vote ≠ 0 → n1.vote = n.vote) (e5 : n1.commit = n.commit) : Ev n n2 ms :=
  ⟨h.me.trans e1, h.sv.trans e2, Int.le_trans e3 h.term, fun a b => by
    have h1 := h.term
    have : n1.term = n.term := by omega
    rw [h.vote (by omega) (by rw [e4 this b]; exact b), e4 this b], by rw [← e5]; exact h.commit, h.inv, h.left, fun o ho => by
    obtain ⟨g1, g2, g3, g4, g5, g6⟩ := h.msg o ho
    exact ⟨by rw [g1, e1], by rw [← e1]; exact g2, g3, by rw [← e2]; exact g4, g5, g6⟩⟩
theorem ev_takeN {n : Nd} (h : n.Inv) (hlf : 1 ≤ n.left) {m : Mi} (hk : m.kind = 3) (hm : n.May m) (hes : EsOK m.es) (hT : m.term ≤ n.term) (d : Int) : Ev n (n.takeN m (pat d)).1 (n.takeN m (pat d)).2 := by
  have hp := pat_le d
  have hf := hm.frm
  have hne := hm.ne
  have h1 := h.li.hc
  have h2 := h.c2
  have h3 := h.l2
  have hix := hm.index
  obtain ⟨he8, hte⟩ := hm.es hk
  have mg : ∀ (N : Nd) (o : Mo), o.frm = n.me → o.to = m.frm → o.term = N.term → o.kind = 4 → o.frm = n.me ∧ o.to ≠ n.me ∧ 1 ≤ o.to ∧ o.to ≤ n.sv ∧ o.term = N.term ∧ (o.kind = 2 → o.yes = true → N.vote = o.to) := fun N o a b c e => ⟨a, by rw [b]; exact hne, by rw [b]; exact hf.1, by rw [b]; exact hf.2, c, fun h => by omega⟩
  unfold Nd.takeN
  split
  · exact ⟨rfl, rfl, Int.le_refl _, fun _ _ => rfl, Int.le_refl _, h, hlf, fun o ho => by simp at ho; subst ho; exact mg _ _ rfl rfl rfl rfl⟩
  · rename_i ht
    have hTe : m.term = n.term := by omega
    split
    · exact ⟨rfl, rfl, Int.le_refl _, fun _ _ => rfl, Int.le_refl _, h, hlf, by simp⟩
    · split
      · refine ⟨rfl, rfl, Int.le_refl _, fun _ _ => rfl, Int.le_refl _, ?_, by show 1 ≤ pat d; omega, fun o ho => by simp at ho; subst ho; exact mg _ _ rfl rfl rfl rfl⟩
        exact ⟨⟨h.li.ho, h.li.hl, h.li.hsv, h.li.hc, h.li.hn, h.li.hm, h.li.ht⟩, h.l2, h.c2, h.me, h.vote, by show 0 ≤ pat d ∧ pat d ≤ 19; omega, h.tm, fun h => (by cases h), fun h => (by cases h)⟩
      · rename_i hmm
        have hi1 : m.index ≤ n.log.length := by omega
        have hpv : termAt n.log m.index = m.prev := by
          apply Decidable.byContradiction; intro hc; exact hmm (.inr hc)
        obtain ⟨_, hK, hag⟩ := agree_spec (L := n.log) (a := m.index) (es := m.es) (k := 0)
        have hK2 : m.index + agree n.log m.index m.es 0 ≤ n.log.length := by
          rcases Nat.eq_zero_or_pos (agree n.log m.index m.es 0) with h0 | h0
          · rw [h0]; omega
          · obtain ⟨e, he, het⟩ := hag (agree n.log m.index m.es 0 - 1) (by omega) (by omega)
            have := ((terms_iff.1 hte).1 e (List.mem_of_getElem? he)).1
            have := termAt_pos (L := n.log) (a := m.index + ((agree n.log m.index m.es 0 - 1 : Nat) : Int) + 1) (by omega)
            omega
        split
        · rename_i hlt
          have htt := terms_take (J := min (m.es.length - agree n.log m.index m.es 0) (200 - (m.index + agree n.log m.index m.es 0).toNat)) h.tm (terms_mono hte hT) hix.1 hi1 hpv
          generalize agree n.log m.index m.es 0 = K at *
          have hlen : (n.log.take (m.index + K).toNat ++ owned ((m.es.drop K).take (min (m.es.length - K) (200 - (m.index + K).toNat)))).length ≤ 200 := by
            simp [owned]; omega
          refine ⟨rfl, rfl, Int.le_refl _, fun _ _ => rfl, by show n.commit ≤ max _ _; omega, ?_, by show 1 ≤ pat d; omega, fun o ho => by simp at ho; subst ho; exact mg _ _ rfl rfl rfl rfl⟩
          refine ⟨⟨fun e he => ?_, by show (n.log.take _ ++ _).length ≤ _; omega, h.li.hsv, by show 0 ≤ max n.commit _; omega, h.li.hn, h.li.hm, h.li.ht⟩, hlen, by show max n.commit _ ≤ 200; omega, h.me, h.vote, by show 0 ≤ pat d ∧ pat d ≤ 19; omega, htt, fun h => (by cases h), fun h => (by cases h)⟩
          rcases List.mem_append.1 he with he | he
          · exact h.li.ho e (List.mem_of_mem_take he)
          · exact owned_ok (fun e he => hes e (List.mem_of_mem_drop (List.mem_of_mem_take he))) e he
        · generalize agree n.log m.index m.es 0 = K at *
          refine ⟨rfl, rfl, Int.le_refl _, fun _ _ => rfl, by show n.commit ≤ max _ _; omega, ?_, by show 1 ≤ pat d; omega, fun o ho => by simp at ho; subst ho; exact mg _ _ rfl rfl rfl rfl⟩
          exact ⟨⟨h.li.ho, h.li.hl, h.li.hsv, by show 0 ≤ max n.commit _; omega, h.li.hn, h.li.hm, h.li.ht⟩, h.l2, by show max n.commit _ ≤ 200; omega, h.me, h.vote, by show 0 ≤ pat d ∧ pat d ≤ 19; omega, h.tm, fun h => (by cases h), fun h => (by cases h)⟩
theorem may_tk1 {n : Nd} {m : Mi} (h : n.May m) : (n.tk1 m).May m := by
  obtain ⟨e1, e2, _⟩ := tk1_ev (n := n) m
  exact ⟨h.kind, by rw [e1]; exact h.to, by rw [e2]; exact h.frm, by rw [e1]; exact h.ne, h.term, h.index, h.prev, h.commit, h.es⟩
theorem ev_tk2 {n : Nd} (h : n.Inv) (hlf : 1 ≤ n.left) {m : Mi} (hm : n.May m) (hes : EsOK m.es) (hT : m.term ≤ n.term) (d : Int) : Ev n (n.tk2 m (pat d)).1 (n.tk2 m (pat d)).2 := by
  have hp := pat_le d
  have hf := hm.frm
  have hne := hm.ne
  have nop : Ev n n [] := ⟨rfl, rfl, Int.le_refl _, fun _ _ => rfl, Int.le_refl _, h, hlf, by simp⟩
  unfold Nd.tk2
  split
  · split
    · rename_i hg
      refine ⟨rfl, rfl, Int.le_refl _, fun _ hv => ?_, Int.le_refl _, ?_, by show 1 ≤ pat d; omega, fun o ho => ?_⟩
      · rcases hg.2.2 with h | h
        · exact absurd h hv
        · exact h.symm
      · exact ⟨⟨h.li.ho, h.li.hl, h.li.hsv, h.li.hc, h.li.hn, h.li.hm, h.li.ht⟩, h.l2, h.c2, h.me, by show 0 ≤ m.frm ∧ m.frm ≤ n.sv; omega, by show 0 ≤ pat d ∧ pat d ≤ 19; omega, h.tm, h.lead, h.cand⟩
      · simp at ho; subst ho; exact ⟨rfl, hne, hf.1, hf.2, rfl, fun _ _ => rfl⟩
    · exact ⟨rfl, rfl, Int.le_refl _, fun _ _ => rfl, Int.le_refl _, h, hlf, fun o ho => by simp at ho; subst ho; exact ⟨rfl, hne, hf.1, hf.2, rfl, fun _ h => by cases h⟩⟩
  · split
    · split
      · rename_i hg
        obtain ⟨ks, hks, hnd, hr⟩ := h.cand hg.2.1
        have hv : Nd.Inv { n with votes := some (addK m.frm (n.votes.getD [])) } := by
          rw [hks]
          exact ⟨⟨h.li.ho, h.li.hl, h.li.hsv, h.li.hc, h.li.hn, h.li.hm, h.li.ht⟩, h.l2, h.c2, h.me, h.vote, h.left, h.tm, h.lead, fun _ => ⟨_, rfl, addK_nodup hnd, addK_range hr hf⟩⟩
        have ht1 := hm.term
        unfold Nd.voted
        split
        · exact ev_lead hv (by show 1 ≤ n.term; omega) rfl rfl (Int.le_refl _) (fun _ _ => rfl) (Int.le_refl _) hlf
        · exact ⟨rfl, rfl, Int.le_refl _, fun _ _ => rfl, Int.le_refl _, hv, hlf, by simp⟩
      · exact nop
    · split
      · rename_i hk
        exact ev_takeN h hlf hk hm hes hT d
      · split
        · rename_i hg
          have hb := h.lead hg.2
          have hsv := h.li.hsv
          obtain ⟨f1, f2, f3, f4, f5⟩ := heard_facts n m h.li.hn h.li.hm (by omega) hm.index.1 hb hf.2
          have hs : (n.heard m).1.me = n.me ∧ (n.heard m).1.term = n.term ∧ (n.heard m).1.vote = n.vote ∧ (n.heard m).1.left = n.left ∧ (n.heard m).1.role = n.role ∧ n.commit ≤ (n.heard m).1.commit ∧ (n.heard m).1.commit ≤ 200 := by
            have h2 := h.c2
            have h3 := h.l2
            unfold Nd.heard
            split
            · split
              · exact ⟨rfl, rfl, rfl, rfl, rfl, Int.le_refl _, h2⟩
              · have := sureC_le { n with mat := n.mat.set m.frm.toNat (max (n.mt m.frm) m.index), nxt := n.nxt.set m.frm.toNat (max (n.mt m.frm) m.index + 1) } n.log.length
                dsimp only at this
                exact ⟨rfl, rfl, rfl, rfl, rfl, this.1, by show sureC _ _ ≤ 200; dsimp only; omega⟩
            · exact ⟨rfl, rfl, rfl, rfl, rfl, Int.le_refl _, h2⟩
          obtain ⟨g1, g2, g3, g4, g5, g6, g7⟩ := hs
          have hc0 := h.li.hc
          have hi : (n.heard m).1.Inv := ⟨⟨by rw [f1]; exact h.li.ho, by rw [f1]; exact h.li.hl, by rw [f4]; exact hsv, by omega, f2, f3, by rw [g2]; exact h.li.ht⟩, by rw [f1]; exact h.l2, g7, by rw [g1, f4]; exact h.me, by rw [g3, f4]; exact h.vote, by rw [g4]; exact h.left, by rw [f1, g2]; exact h.tm, fun _ => by rw [f1, f4]; exact f5, fun hr => by rw [g5] at hr; omega⟩
          split
          · exact ⟨g1, f4, by rw [g2]; exact Int.le_refl _, fun _ _ => g3, g6, hi, by rw [g4]; exact hlf, fun o ho => by simp at ho; subst ho; exact ⟨g1, hne, hf.1, hf.2, rfl, fun h => by cases h⟩⟩
          · exact ⟨g1, f4, by rw [g2]; exact Int.le_refl _, fun _ _ => g3, g6, hi, by rw [g4]; exact hlf, by simp⟩
        · exact nop
theorem ev_take {n : Nd} (h : n.Inv) (hlf : 1 ≤ n.left) (m : Mi) (hes : EsOK m.es) (d : Int) : Ev n (n.takeMsg m (pat d)).1 (n.takeMsg m (pat d)).2 := by
  unfold Nd.takeMsg
  split
  · rename_i hm
    obtain ⟨e1, e2, e3, e4, e5, e6, e7⟩ := tk1_ev (n := n) m
    exact (ev_tk2 (inv_tk1 h hm) (by rw [e6]; exact hlf) (may_tk1 hm) hes e7 d).after e1 e2 e3 e4 e5
  · exact ⟨rfl, rfl, Int.le_refl _, fun _ _ => rfl, Int.le_refl _, h, hlf, by simp⟩
theorem new_inv {me sv term vote : Int} {L : List En} (h : NewOK me sv term vote L) (ho : EsOK L) (d : Int) : (newN me sv term vote L (pat d)).Inv ∧ 1 ≤ (newN me sv term vote L (pat d)).left := by
  have hp := pat_le d
  have := h.flen
  refine ⟨⟨⟨owned_ok ho, by show (owned L).length ≤ 999; rw [owned_len]; omega, h.fsv, Int.le_refl _, rfl, rfl, h.fterm⟩, by show (owned L).length ≤ 200; rw [owned_len]; omega, by show (0 : Int) ≤ 200; omega, h.fme, h.fvote, by show 0 ≤ pat d ∧ pat d ≤ 19; omega, by show termsOK (owned L) 1 term = true; rw [terms_owned]; exact h.ftm, fun h => (by cases h), fun h => (by cases h)⟩, by show 1 ≤ pat d; omega⟩
theorem again_ok {n : Nd} (h : n.Inv) : NewOK n.me n.sv n.term n.vote (owned n.log) :=
  ⟨h.li.hsv, h.me, h.li.ht, h.vote, by rw [owned_len]; exact h.l2, by rw [terms_owned]; exact h.tm⟩
theorem apps_few {n : Nd} (h : n.sv ≤ 5) : n.apps.length ≤ 5 := by
  have := upTo_len n.me n.appM n.sv.toNat
  unfold Nd.apps; omega
theorem few_tick {n : Nd} (h : n.Inv) (d : Int) : (n.tick d).2.length ≤ 5 := by
  have hsv := h.li.hsv.2
  unfold Nd.tick
  split
  · exact apps_few hsv
  · split
    · simp
    · split
      · simp
      · unfold Nd.stand
        split
        · exact apps_few (by rw [(leadN_same _).2.1]; exact hsv)
        · exact Nat.le_trans (upTo_len _ _ _) (by show n.sv.toNat ≤ 5; omega)
theorem few_take {n : Nd} (h : n.Inv) (m : Mi) (p : Int) : (n.takeMsg m p).2.length ≤ 5 := by
  have hsv := h.li.hsv.2
  have e2 := (tk1_ev (n := n) m).2.1
  unfold Nd.takeMsg
  split
  · unfold Nd.tk2
    split
    · split <;> simp
    · split
      · split
        · unfold Nd.voted
          split
          · exact apps_few (by rw [(leadN_same _).2.1]; show (n.tk1 m).sv ≤ 5; rw [e2]; exact hsv)
          · simp
        · simp
      · split
        · unfold Nd.takeN
          split
          · simp
          · split
            · simp
            · split
              · simp
              · split <;> simp
        · split
          · split <;> simp
          · simp
  · simp
end Stk
