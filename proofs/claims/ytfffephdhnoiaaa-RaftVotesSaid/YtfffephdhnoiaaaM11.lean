/- A message that comes. -/
import Derived.Test.YtfffephdhnoiaaaM10
namespace Stk
open Go
set_option maxRecDepth 100000
set_option linter.unusedSimpArgs false
set_option linter.unusedVariables false
set_option maxHeartbeats 8000000
def addK (k : Int) (ks : List Int) : List Int := if k ∈ ks then ks else ks ++ [k]
theorem mput_add (k : Int) : ∀ ks : List Int, mput (i6 k) (.bool true) (kvT ks) = kvT (addK k ks)
  | [] => rfl
  | a :: r => by
    by_cases h : k = a
    · subst h
      have : addK k (k :: r) = k :: r := by simp [addK]
      rw [this]
      show mput (i6 k) (.bool true) ((i6 k, .bool true) :: kvT r) = _
      unfold mput
      rw [if_pos (by simp [Tr.eqb])]
      rfl
    · have ih := mput_add k r
      have : addK k (a :: r) = a :: addK k r := by
        unfold addK
        by_cases hr : k ∈ r
        · rw [if_pos (by simp [hr]), if_pos hr]
        · rw [if_neg (by simp [h, hr]), if_neg hr]; rfl
      rw [this]
      show mput (i6 k) (.bool true) ((i6 a, .bool true) :: kvT r) = _
      unfold mput
      rw [if_neg (by simp [Tr.eqb, h]), ih]
      rfl
theorem kv_fits (ks : List Int) : (kvT ks).all (fun p => p.1.fits (.int .i64)) = true := by
  simp [kvT, Tr.fits, kindEq]
def Nd.tk1 (n : Nd) (m : Mi) : Nd := if m.term > n.term then { n with term := m.term, vote := 0, role := 0, lead := 0 } else n
def Nd.voted (n : Nd) (m : Mi) : Nd × List Mo :=
  if 2 * ((addK m.frm (n.votes.getD [])).length : Int) > n.sv then ({ n with votes := some (addK m.frm (n.votes.getD [])) }.leadN, { n with votes := some (addK m.frm (n.votes.getD [])) }.leadN.apps)
  else ({ n with votes := some (addK m.frm (n.votes.getD [])) }, [])
def Nd.tk2 (n : Nd) (m : Mi) (p : Int) : Nd × List Mo :=
  if m.kind = 1 then
    (if m.term = n.term ∧ (m.prev > termAt n.log n.log.length ∨ m.prev = termAt n.log n.log.length ∧ m.index ≥ n.log.length) ∧ (n.vote = 0 ∨ n.vote = m.frm) then ({ n with vote := m.frm, left := p }, [{ (n.msg 2 m.frm) with yes := true }]) else (n, [n.msg 2 m.frm]))
  else if m.kind = 2 then (if m.term = n.term ∧ n.role = 1 ∧ m.yes = true then n.voted m else (n, []))
  else if m.kind = 3 then n.takeN m p
  else if m.term = n.term ∧ n.role = 2 then (if (n.heard m).2 = true then ((n.heard m).1, [(n.heard m).1.appM m.frm]) else ((n.heard m).1, []))
  else (n, [])
structure Nd.Inv (n : Nd) : Prop where
  li : n.LI
  l2 : n.log.length ≤ 200
  c2 : n.commit ≤ 200
  me : 1 ≤ n.me ∧ n.me ≤ n.sv
  vote : 0 ≤ n.vote ∧ n.vote ≤ n.sv
  left : 0 ≤ n.left ∧ n.left ≤ 19
  tm : termsOK n.log 1 n.term = true
  lead : n.role = 2 → ∀ to, 1 ≤ to ∧ to ≤ n.sv → (1 ≤ n.nx to ∧ n.nx to ≤ n.log.length + 1) ∧ 0 ≤ n.mt to ∧ n.mt to ≤ n.log.length
  cand : n.role = 1 → ∃ ks, n.votes = some ks ∧ ks.Nodup ∧ ∀ k ∈ ks, 1 ≤ k ∧ k ≤ n.sv
theorem terms_pos : ∀ {L : List En} {a m : Int}, termsOK L a m = true → ∀ e ∈ L, 1 ≤ e.term ∧ e.term ≤ m
  | [], _, _, _, e, he => by cases he
  | x :: r, a, m, h, e, he => by
    unfold termsOK at h
    split at h
    · cases h
    · rename_i hx
      rcases List.mem_cons.1 he with rfl | he
      · omega
      · exact terms_pos h e he
theorem nodup_le {ks us : List Int} (hn : ks.Nodup) (hs : ∀ k ∈ ks, k ∈ us) : ks.length ≤ us.length := by
  induction us generalizing ks with
  | nil =>
    cases ks with
    | nil => simp
    | cons k ks => exact absurd (hs k (by simp)) (by simp)
  | cons u us ih =>
    by_cases hu : u ∈ ks
    · have := ih (ks := ks.erase u) (hn.erase u) (fun k hk => by
        have h1 := (List.Nodup.mem_erase_iff hn).1 hk
        rcases List.mem_cons.1 (hs k h1.2) with h | h
        · exact absurd h h1.1
        · exact h)
      rw [List.length_erase_of_mem hu] at this
      simp; omega
    · have := ih hn (fun k hk => by
        rcases List.mem_cons.1 (hs k hk) with h | h
        · subst h; exact absurd hk hu
        · exact h)
      simp; omega
theorem keys_le {ks : List Int} {sv : Int} (hn : ks.Nodup) (hr : ∀ k ∈ ks, 1 ≤ k ∧ k ≤ sv) (hs : sv ≤ 5) : ks.length ≤ 5 := by
  have := nodup_le (us := [1, 2, 3, 4, 5]) hn (fun k hk => by have := hr k hk; simp; omega)
  simpa using this
theorem addK_nodup {k : Int} {ks : List Int} (h : ks.Nodup) : (addK k ks).Nodup := by
  unfold addK
  split
  · exact h
  · rename_i hk
    rw [List.nodup_append]
    refine ⟨h, by simp, ?_⟩
    intro a ha b hb
    simp at hb
    subst hb
    rintro rfl
    exact hk ha
theorem addK_mem {k x : Int} {ks : List Int} (h : x ∈ addK k ks) : x ∈ ks ∨ x = k := by
  unfold addK at h
  split at h
  · exact .inl h
  · simpa using h
theorem takeN_votes (n : Nd) (m : Mi) (p : Int) : (n.takeN m p).1.votes = n.votes := by
  unfold Nd.takeN
  split
  · rfl
  · split
    · rfl
    · split
      · rfl
      · split <;> rfl
theorem leadN_votes (n : Nd) : n.leadN.votes = n.votes := by
  unfold Nd.leadN Nd.sure Nd.lead2 Nd.lead1
  dsimp only
  split <;> rfl
theorem heard_votes (n : Nd) (m : Mi) : (n.heard m).1.votes = n.votes := by
  unfold Nd.heard
  split
  · split <;> rfl
  · rfl
theorem set_getD (l : List Int) (i j : Nat) (v : Int) : ((l.set i v)[j]?).getD 0 = if i = j ∧ i < l.length then v else (l[j]?).getD 0 := by
  rw [List.getElem?_set]
  by_cases h : i = j
  · subst h
    by_cases h2 : i < l.length
    · rw [if_pos rfl, if_pos h2, if_pos ⟨rfl, h2⟩]; rfl
    · rw [if_pos rfl, if_neg h2, if_neg (fun h => h2 h.2), List.getElem?_eq_none (by omega)]
  · rw [if_neg h, if_neg (fun hh => h hh.1)]
theorem heard_facts (n : Nd) (m : Mi) (hn : n.nxt.length = 6) (hm : n.mat.length = 6) (hf : 1 ≤ m.frm ∧ m.frm ≤ 5) (hix : 0 ≤ m.index)
    (hb : ∀ to, 1 ≤ to ∧ to ≤ n.sv → (1 ≤ n.nx to ∧ n.nx to ≤ n.log.length + 1) ∧ 0 ≤ n.mt to ∧ n.mt to ≤ n.log.length) (hfs : m.frm ≤ n.sv := by assumption) :
    (n.heard m).1.log = n.log ∧ (n.heard m).1.nxt.length = 6 ∧ (n.heard m).1.mat.length = 6 ∧ (n.heard m).1.sv = n.sv ∧
    ∀ to, 1 ≤ to ∧ to ≤ n.sv → (1 ≤ (n.heard m).1.nx to ∧ (n.heard m).1.nx to ≤ n.log.length + 1) ∧ 0 ≤ (n.heard m).1.mt to ∧ (n.heard m).1.mt to ≤ n.log.length := by
  have hbf := hb m.frm ⟨hf.1, hfs⟩
  unfold Nd.heard
  split
  · split
    · exact ⟨rfl, hn, hm, rfl, hb⟩
    · rename_i hi
      refine ⟨rfl, by simpa [Nd.sure] using hn, by simpa [Nd.sure] using hm, rfl, fun to hto => ?_⟩
      have hbt := hb to hto
      have e1 : Nd.nx (Nd.sure { n with mat := n.mat.set m.frm.toNat (max (n.mt m.frm) m.index), nxt := n.nxt.set m.frm.toNat (max (n.mt m.frm) m.index + 1) }) to = if m.frm.toNat = to.toNat ∧ m.frm.toNat < n.nxt.length then max (n.mt m.frm) m.index + 1 else n.nx to := set_getD _ _ _ _
      have e2 : Nd.mt (Nd.sure { n with mat := n.mat.set m.frm.toNat (max (n.mt m.frm) m.index), nxt := n.nxt.set m.frm.toNat (max (n.mt m.frm) m.index + 1) }) to = if m.frm.toNat = to.toNat ∧ m.frm.toNat < n.mat.length then max (n.mt m.frm) m.index else n.mt to := set_getD _ _ _ _
      dsimp only
      rw [e1, e2]
      generalize n.mt m.frm = y at *
      constructor
      · split <;> omega
      · split <;> omega
  · refine ⟨rfl, by simpa using hn, hm, rfl, fun to hto => ?_⟩
    have hbt := hb to hto
    have e1 : ∀ v, Nd.nx { n with nxt := n.nxt.set m.frm.toNat v } to = if m.frm.toNat = to.toNat ∧ m.frm.toNat < n.nxt.length then v else n.nx to := fun v => set_getD _ _ _ _
    dsimp only
    rw [e1]
    refine ⟨?_, hbt.2⟩
    generalize n.mt m.frm = y at *
    generalize n.nx m.frm = x at *
    split
    · split <;> omega
    · omega
/-- What a server does with a message. -/
noncomputable def Nd.takeMsg (n : Nd) (m : Mi) (p : Int) : Nd × List Mo := open Classical in if n.May m then (n.tk1 m).tk2 m p else (n, [])
theorem k_Take (n : Nd) (cap : Option Nat) (xs : List Tr) (h : LogR n.log xs cap) (hi : n.Inv) (m : Mi) (hk : 0 ≤ m.kind ∧ m.kind ≤ 255) (hes : EsOK m.es) (draw : Int) (hd : I64 draw) :
    ACalls PP GG F.raft_Node_Take [pt 0, m.l, ti draw] (n.H cap xs) fun r H' => Left2 n.g (n.takeMsg m (pat draw)).1 (n.takeMsg m (pat draw)).2 r H' := by
  have kmay := k_may n cap xs m hk
  unfold Nd.takeMsg
  obtain ⟨⟨ho, hl, hsv, hc, hn, hm, ht⟩, hl2, hc2, hme, hvote, hlf, htm, hld, hcand⟩ := hi
  rcases n with ⟨me, sv, term, vote, role, lead, commit, left, log, _ | ks, nxt, mat⟩
  · dsimp only at h ho hl hsv hc hn hm ht hl2 hc2 hme hvote hlf hld hcand kmay
    refine K.raft_Node_Take.callsD rfl ?_
    (conv => arg 3; whnf); repeat ((first | (with_reducible apply sT); rfl | (with_reducible apply sF); rfl | (with_reducible apply sE); rfl); conv => arg 3; whnf)
    refine sat_call kmay ?_
    rintro r H' ⟨q, rfl, hq, rfl⟩
    cases q
    · rw [if_neg (fun h => by have := hq.2 h; cases this)]
      (conv => arg 3; whnf); repeat ((first | (with_reducible apply sT); rfl | (with_reducible apply sF); rfl | (with_reducible apply sE); rfl); conv => arg 3; whnf)
      exact sat_ret ⟨cap, xs, none, h, rfl, rfl⟩
    have hmay := hq.1 rfl
    rw [if_pos hmay]
    (conv => arg 3; whnf); repeat ((first | (with_reducible apply sT); rfl | (with_reducible apply sF); rfl | (with_reducible apply sE); rfl); conv => arg 3; whnf)
    have ht2 : 0 ≤ m.term ∧ m.term ≤ 1099511627776 := by have := hmay.term; omega
    refine sat_br (fun h1 => ?_) (fun h1 => ?_)
    · have h1 : m.term > term := of_decide_eq_true h1
      rw [Nd.tk1, if_pos h1]
      dsimp only
      have kl := k_last ⟨me, sv, m.term, 0, 0, 0, commit, left, log, none, nxt, mat⟩ cap xs
      have kt := k_term ⟨me, sv, m.term, 0, 0, 0, commit, left, log, none, nxt, mat⟩ cap xs h
      have km := k_msg ⟨me, sv, m.term, 0, 0, 0, commit, left, log, none, nxt, mat⟩ cap xs 2 m.frm
      have ktk := k_take ⟨me, sv, m.term, 0, 0, 0, commit, left, log, none, nxt, mat⟩ cap xs h ⟨ho, hl, hsv, hc, hn, hm, ht2⟩ hl2 m hmay.index hmay.commit (by dsimp only; omega)
      dsimp only at kl kt
      (conv => arg 3; whnf); repeat ((first | (with_reducible apply sT); rfl | (with_reducible apply sF); rfl | (with_reducible apply sE); rfl); conv => arg 3; whnf)
      rw [show (m.term == m.term) = true by simp]
      refine sat_br (fun k1 => ?_) (fun k1 => ?_)
      · have k1 : m.kind = 1 := by simpa using k1
        rw [Nd.tk2, if_pos k1]
        dsimp only
        (conv => arg 3; whnf); repeat ((first | (with_reducible apply sT); rfl | (with_reducible apply sF); rfl | (with_reducible apply sE); rfl); conv => arg 3; whnf)
        refine sat_call km ?_
        rintro r H' ⟨rfl, rfl⟩
        (conv => arg 3; whnf); repeat ((first | (with_reducible apply sT); rfl | (with_reducible apply sF); rfl | (with_reducible apply sE); rfl); conv => arg 3; whnf)
        refine sat_call kl ?_
        rintro r H' ⟨rfl, rfl⟩
        (conv => arg 3; whnf); repeat ((first | (with_reducible apply sT); rfl | (with_reducible apply sF); rfl | (with_reducible apply sE); rfl); conv => arg 3; whnf)
        refine sat_call (kt log.length (by omega) (by omega)) ?_
        rintro r H' ⟨rfl, rfl⟩
        generalize termAt log (log.length : Int) = mine
        (conv => arg 3; whnf); repeat ((first | (with_reducible apply sT); rfl | (with_reducible apply sF); rfl | (with_reducible apply sE); rfl); conv => arg 3; whnf)
        repeat' (first | ((with_reducible refine sat_br (fun hb => ?_) (fun hb => ?_)) <;> ((conv => arg 3; whnf); repeat ((first | (with_reducible apply sT); rfl | (with_reducible apply sF); rfl | (with_reducible apply sE); rfl); conv => arg 3; whnf))) | ((refine sat_call kl ?_); (rintro r H' ⟨rfl, rfl⟩); ((conv => arg 3; whnf); repeat ((first | (with_reducible apply sT); rfl | (with_reducible apply sF); rfl | (with_reducible apply sE); rfl); conv => arg 3; whnf))) | ((refine sat_call (k_patience draw hd) ?_); (rintro r H' ⟨⟨p, rfl, _, _, hp⟩, rfl⟩); (obtain rfl : p = pat draw := hp); ((conv => arg 3; whnf); repeat ((first | (with_reducible apply sT); rfl | (with_reducible apply sF); rfl | (with_reducible apply sE); rfl); conv => arg 3; whnf))))
        all_goals
          clear kl kt km ktk kmay
          first
          | (have hg : (m.prev > mine ∨ m.prev = mine ∧ m.index ≥ (log.length : Int)) := (by simp only [decide_eq_true_eq, decide_eq_false_iff_not, beq_iff_eq, beq_eq_false_iff_ne, ne_eq] at * <;> omega); rw [if_pos ⟨rfl, hg, .inl rfl⟩]; exact sat_ret ⟨cap, xs, some 1, h, rfl, rfl⟩)
          | (have hg : ¬ ((m.prev > mine ∨ m.prev = mine ∧ m.index ≥ (log.length : Int))) := (by simp only [decide_eq_true_eq, decide_eq_false_iff_not, beq_iff_eq, beq_eq_false_iff_ne, ne_eq] at * <;> omega); rw [if_neg (fun hh => hg hh.2.1)]; exact sat_ret ⟨cap, xs, some 1, h, rfl, rfl⟩)
      refine sat_br (fun k2 => ?_) (fun k2 => ?_)
      · have k1 : ¬ m.kind = 1 := by simpa using k1
        have k2 : m.kind = 2 := by simpa using k2
        rw [Nd.tk2, if_neg k1, if_pos k2]
        dsimp only
        (conv => arg 3; whnf); repeat ((first | (with_reducible apply sT); rfl | (with_reducible apply sF); rfl | (with_reducible apply sE); rfl); conv => arg 3; whnf)
        rw [if_neg (fun hh => by simp at hh)]
        exact sat_ret ⟨cap, xs, none, h, rfl, rfl⟩
      refine sat_br (fun k3 => ?_) (fun k3 => ?_)
      · have k1 : ¬ m.kind = 1 := by simpa using k1
        have k2 : ¬ m.kind = 2 := by simpa using k2
        have k3 : m.kind = 3 := by simpa using k3
        have he := hmay.es k3
        rw [Nd.tk2, if_neg k1, if_neg k2, if_pos k3]
        (conv => arg 3; whnf); repeat ((first | (with_reducible apply sT); rfl | (with_reducible apply sF); rfl | (with_reducible apply sE); rfl); conv => arg 3; whnf)
        have ktk := ktk he.1 (fun e h => (terms_pos he.2 e h).1) hes draw hd
        have ev := takeN_votes ⟨me, sv, m.term, 0, 0, 0, commit, left, log, none, nxt, mat⟩ m (pat draw)
        generalize Nd.takeN ⟨me, sv, m.term, 0, 0, 0, commit, left, log, none, nxt, mat⟩ m (pat draw) = RR at *
        obtain ⟨⟨Nme, Nsv, Nterm, Nvote, Nrole, Nlead, Ncommit, Nleft, Nlog, Nvotes, Nnxt, Nmat⟩, ms⟩ := RR
        dsimp only at ev
        subst ev
        refine sat_call ktk ?_
        rintro r H' ⟨cap', xs', c, hL', rfl, rfl⟩
        (conv => arg 3; whnf); repeat ((first | (with_reducible apply sT); rfl | (with_reducible apply sF); rfl | (with_reducible apply sE); rfl); conv => arg 3; whnf)
        exact sat_ret ⟨cap', xs', c, hL', rfl, rfl⟩
      · have k1 : ¬ m.kind = 1 := by simpa using k1
        have k2 : ¬ m.kind = 2 := by simpa using k2
        have k3 : ¬ m.kind = 3 := by simpa using k3
        have k4 : m.kind = 4 := by have := hmay.kind; omega
        rw [Nd.tk2, if_neg k1, if_neg k2, if_neg k3]
        (conv => arg 3; whnf); repeat ((first | (with_reducible apply sT); rfl | (with_reducible apply sF); rfl | (with_reducible apply sE); rfl); conv => arg 3; whnf)
        rw [show (m.kind == 4) = true by simp [k4]]
        (conv => arg 3; whnf); repeat ((first | (with_reducible apply sT); rfl | (with_reducible apply sF); rfl | (with_reducible apply sE); rfl); conv => arg 3; whnf)
        rw [if_neg (fun hh => by simp at hh)]
        exact sat_ret ⟨cap, xs, none, h, rfl, rfl⟩
    · have h1 : ¬ m.term > term := of_decide_eq_false h1
      rw [Nd.tk1, if_neg h1]
      have kl := k_last ⟨me, sv, term, vote, role, lead, commit, left, log, none, nxt, mat⟩ cap xs
      have kt := k_term ⟨me, sv, term, vote, role, lead, commit, left, log, none, nxt, mat⟩ cap xs h
      have km := k_msg ⟨me, sv, term, vote, role, lead, commit, left, log, none, nxt, mat⟩ cap xs 2 m.frm
      have ktk := k_take ⟨me, sv, term, vote, role, lead, commit, left, log, none, nxt, mat⟩ cap xs h ⟨ho, hl, hsv, hc, hn, hm, ht⟩ hl2 m hmay.index hmay.commit (by dsimp only; omega)
      dsimp only at kl kt
      (conv => arg 3; whnf); repeat ((first | (with_reducible apply sT); rfl | (with_reducible apply sF); rfl | (with_reducible apply sE); rfl); conv => arg 3; whnf)
      refine sat_br (fun k1 => ?_) (fun k1 => ?_)
      · have k1 : m.kind = 1 := by simpa using k1
        rw [Nd.tk2, if_pos k1]
        dsimp only
        (conv => arg 3; whnf); repeat ((first | (with_reducible apply sT); rfl | (with_reducible apply sF); rfl | (with_reducible apply sE); rfl); conv => arg 3; whnf)
        refine sat_call km ?_
        rintro r H' ⟨rfl, rfl⟩
        (conv => arg 3; whnf); repeat ((first | (with_reducible apply sT); rfl | (with_reducible apply sF); rfl | (with_reducible apply sE); rfl); conv => arg 3; whnf)
        refine sat_call kl ?_
        rintro r H' ⟨rfl, rfl⟩
        (conv => arg 3; whnf); repeat ((first | (with_reducible apply sT); rfl | (with_reducible apply sF); rfl | (with_reducible apply sE); rfl); conv => arg 3; whnf)
        refine sat_call (kt log.length (by omega) (by omega)) ?_
        rintro r H' ⟨rfl, rfl⟩
        generalize termAt log (log.length : Int) = mine
        (conv => arg 3; whnf); repeat ((first | (with_reducible apply sT); rfl | (with_reducible apply sF); rfl | (with_reducible apply sE); rfl); conv => arg 3; whnf)
        repeat' (first | ((with_reducible refine sat_br (fun hb => ?_) (fun hb => ?_)) <;> ((conv => arg 3; whnf); repeat ((first | (with_reducible apply sT); rfl | (with_reducible apply sF); rfl | (with_reducible apply sE); rfl); conv => arg 3; whnf))) | ((refine sat_call kl ?_); (rintro r H' ⟨rfl, rfl⟩); ((conv => arg 3; whnf); repeat ((first | (with_reducible apply sT); rfl | (with_reducible apply sF); rfl | (with_reducible apply sE); rfl); conv => arg 3; whnf))) | ((refine sat_call (k_patience draw hd) ?_); (rintro r H' ⟨⟨p, rfl, _, _, hp⟩, rfl⟩); (obtain rfl : p = pat draw := hp); ((conv => arg 3; whnf); repeat ((first | (with_reducible apply sT); rfl | (with_reducible apply sF); rfl | (with_reducible apply sE); rfl); conv => arg 3; whnf))))
        all_goals
          clear kl kt km ktk kmay
          first
          | (have hg : m.term = term ∧ (m.prev > mine ∨ m.prev = mine ∧ m.index ≥ (log.length : Int)) ∧ (vote = 0 ∨ vote = m.frm) := (by simp only [decide_eq_true_eq, decide_eq_false_iff_not, beq_iff_eq, beq_eq_false_iff_ne, ne_eq] at * <;> omega); rw [if_pos hg]; exact sat_ret ⟨cap, xs, some 1, h, rfl, rfl⟩)
          | (have hg : ¬ (m.term = term ∧ (m.prev > mine ∨ m.prev = mine ∧ m.index ≥ (log.length : Int)) ∧ (vote = 0 ∨ vote = m.frm)) := (by simp only [decide_eq_true_eq, decide_eq_false_iff_not, beq_iff_eq, beq_eq_false_iff_ne, ne_eq] at * <;> omega); rw [if_neg hg]; exact sat_ret ⟨cap, xs, some 1, h, rfl, rfl⟩)
      refine sat_br (fun k2 => ?_) (fun k2 => ?_)
      · have k1 : ¬ m.kind = 1 := by simpa using k1
        have k2 : m.kind = 2 := by simpa using k2
        rw [Nd.tk2, if_neg k1, if_pos k2]
        dsimp only
        (conv => arg 3; whnf); repeat ((first | (with_reducible apply sT); rfl | (with_reducible apply sF); rfl | (with_reducible apply sE); rfl); conv => arg 3; whnf)
        refine sat_br (fun k3 => ?_) (fun k3 => ?_)
        · (conv => arg 3; whnf); repeat ((first | (with_reducible apply sT); rfl | (with_reducible apply sF); rfl | (with_reducible apply sE); rfl); conv => arg 3; whnf)
          refine sat_br (fun k4 => ?_) (fun k4 => ?_)
          · have k4 : role = 1 := by simpa using k4
            obtain ⟨_, h9, _⟩ := hcand k4
            cases h9
          · have k4 : ¬ role = 1 := by simpa using k4
            rw [if_neg (fun hh => k4 hh.2.1)]
            (conv => arg 3; whnf); repeat ((first | (with_reducible apply sT); rfl | (with_reducible apply sF); rfl | (with_reducible apply sE); rfl); conv => arg 3; whnf)
            exact sat_ret ⟨cap, xs, none, h, rfl, rfl⟩
        · have k3 : ¬ m.term = term := by simpa using k3
          rw [if_neg (fun hh => k3 hh.1)]
          (conv => arg 3; whnf); repeat ((first | (with_reducible apply sT); rfl | (with_reducible apply sF); rfl | (with_reducible apply sE); rfl); conv => arg 3; whnf)
          exact sat_ret ⟨cap, xs, none, h, rfl, rfl⟩
      refine sat_br (fun k3 => ?_) (fun k3 => ?_)
      · have k1 : ¬ m.kind = 1 := by simpa using k1
        have k2 : ¬ m.kind = 2 := by simpa using k2
        have k3 : m.kind = 3 := by simpa using k3
        have he := hmay.es k3
        rw [Nd.tk2, if_neg k1, if_neg k2, if_pos k3]
        (conv => arg 3; whnf); repeat ((first | (with_reducible apply sT); rfl | (with_reducible apply sF); rfl | (with_reducible apply sE); rfl); conv => arg 3; whnf)
        have ktk := ktk he.1 (fun e h => (terms_pos he.2 e h).1) hes draw hd
        have ev := takeN_votes ⟨me, sv, term, vote, role, lead, commit, left, log, none, nxt, mat⟩ m (pat draw)
        generalize Nd.takeN ⟨me, sv, term, vote, role, lead, commit, left, log, none, nxt, mat⟩ m (pat draw) = RR at *
        obtain ⟨⟨Nme, Nsv, Nterm, Nvote, Nrole, Nlead, Ncommit, Nleft, Nlog, Nvotes, Nnxt, Nmat⟩, ms⟩ := RR
        dsimp only at ev
        subst ev
        refine sat_call ktk ?_
        rintro r H' ⟨cap', xs', c, hL', rfl, rfl⟩
        (conv => arg 3; whnf); repeat ((first | (with_reducible apply sT); rfl | (with_reducible apply sF); rfl | (with_reducible apply sE); rfl); conv => arg 3; whnf)
        exact sat_ret ⟨cap', xs', c, hL', rfl, rfl⟩
      · have k1 : ¬ m.kind = 1 := by simpa using k1
        have k2 : ¬ m.kind = 2 := by simpa using k2
        have k3 : ¬ m.kind = 3 := by simpa using k3
        have k4 : m.kind = 4 := by have := hmay.kind; omega
        rw [Nd.tk2, if_neg k1, if_neg k2, if_neg k3]
        (conv => arg 3; whnf); repeat ((first | (with_reducible apply sT); rfl | (with_reducible apply sF); rfl | (with_reducible apply sE); rfl); conv => arg 3; whnf)
        rw [show (m.kind == 4) = true by simp [k4]]
        (conv => arg 3; whnf); repeat ((first | (with_reducible apply sT); rfl | (with_reducible apply sF); rfl | (with_reducible apply sE); rfl); conv => arg 3; whnf)
        refine sat_br (fun k5 => ?_) (fun k5 => ?_)
        · have k5 : m.term = term := by simpa using k5
          (conv => arg 3; whnf); repeat ((first | (with_reducible apply sT); rfl | (with_reducible apply sF); rfl | (with_reducible apply sE); rfl); conv => arg 3; whnf)
          refine sat_br (fun k6 => ?_) (fun k6 => ?_)
          · have k6 : role = 2 := by simpa using k6
            rw [if_pos (show m.term = term ∧ role = 2 from ⟨k5, k6⟩)]
            have hb := hld k6
            have hbf := hb m.frm hmay.frm
            have hf5 : 1 ≤ m.frm ∧ m.frm ≤ 5 := by have := hmay.frm; dsimp only at this; omega
            have khd := k_heard ⟨me, sv, term, vote, role, lead, commit, left, log, none, nxt, mat⟩ cap xs h hl hsv hc hn hm m hmay.frm hmay.index (by omega) (by omega)
            have hfc := heard_facts ⟨me, sv, term, vote, role, lead, commit, left, log, none, nxt, mat⟩ m hn hm hf5 hmay.index.1 hb hmay.frm.2
            have ev := heard_votes ⟨me, sv, term, vote, role, lead, commit, left, log, none, nxt, mat⟩ m
            generalize Nd.heard ⟨me, sv, term, vote, role, lead, commit, left, log, none, nxt, mat⟩ m = RR at *
            obtain ⟨⟨Nme, Nsv, Nterm, Nvote, Nrole, Nlead, Ncommit, Nleft, Nlog, Nvotes, Nnxt, Nmat⟩, q⟩ := RR
            obtain ⟨f1, f2, f3, f4, f5⟩ := hfc
            dsimp only at ev f1 f2 f3 f4 f5
            subst ev f1
            (conv => arg 3; whnf); repeat ((first | (with_reducible apply sT); rfl | (with_reducible apply sF); rfl | (with_reducible apply sE); rfl); conv => arg 3; whnf)
            refine sat_call khd ?_
            rintro r H' ⟨cap', xs', hL', rfl, rfl⟩
            have kap := k_append ⟨Nme, Nsv, Nterm, Nvote, Nrole, Nlead, Ncommit, Nleft, Nlog, none, Nnxt, Nmat⟩ cap' xs' hL' ho (by dsimp only; omega) m.frm (by omega) f2 (f5 m.frm hmay.frm).1
            (conv => arg 3; whnf); repeat ((first | (with_reducible apply sT); rfl | (with_reducible apply sF); rfl | (with_reducible apply sE); rfl); conv => arg 3; whnf)
            refine sat_br (fun k7 => ?_) (fun k7 => ?_)
            · dsimp only at k7
              subst k7
              rw [if_pos rfl]
              (conv => arg 3; whnf); repeat ((first | (with_reducible apply sT); rfl | (with_reducible apply sF); rfl | (with_reducible apply sE); rfl); conv => arg 3; whnf)
              refine sat_call kap ?_
              rintro r H' ⟨rfl, rfl⟩
              (conv => arg 3; whnf); repeat ((first | (with_reducible apply sT); rfl | (with_reducible apply sF); rfl | (with_reducible apply sE); rfl); conv => arg 3; whnf)
              rw [esT_take]
              exact sat_ret ⟨cap', xs', some 1, hL', rfl, rfl⟩
            · dsimp only at k7
              subst k7
              rw [if_neg (by simp)]
              (conv => arg 3; whnf); repeat ((first | (with_reducible apply sT); rfl | (with_reducible apply sF); rfl | (with_reducible apply sE); rfl); conv => arg 3; whnf)
              exact sat_ret ⟨cap', xs', none, hL', rfl, rfl⟩
          · have k6 : ¬ role = 2 := by simpa using k6
            rw [if_neg (fun hh => k6 hh.2)]
            (conv => arg 3; whnf); repeat ((first | (with_reducible apply sT); rfl | (with_reducible apply sF); rfl | (with_reducible apply sE); rfl); conv => arg 3; whnf)
            exact sat_ret ⟨cap, xs, none, h, rfl, rfl⟩
        · have k5 : ¬ m.term = term := by simpa using k5
          rw [if_neg (fun hh => k5 hh.1)]
          (conv => arg 3; whnf); repeat ((first | (with_reducible apply sT); rfl | (with_reducible apply sF); rfl | (with_reducible apply sE); rfl); conv => arg 3; whnf)
          exact sat_ret ⟨cap, xs, none, h, rfl, rfl⟩
  · dsimp only at h ho hl hsv hc hn hm ht hl2 hc2 hme hvote hlf hld hcand kmay
    refine K.raft_Node_Take.callsD rfl ?_
    (conv => arg 3; whnf); repeat ((first | (with_reducible apply sT); rfl | (with_reducible apply sF); rfl | (with_reducible apply sE); rfl); conv => arg 3; whnf)
    refine sat_call kmay ?_
    rintro r H' ⟨q, rfl, hq, rfl⟩
    cases q
    · rw [if_neg (fun h => by have := hq.2 h; cases this)]
      (conv => arg 3; whnf); repeat ((first | (with_reducible apply sT); rfl | (with_reducible apply sF); rfl | (with_reducible apply sE); rfl); conv => arg 3; whnf)
      exact sat_ret ⟨cap, xs, none, h, rfl, rfl⟩
    have hmay := hq.1 rfl
    rw [if_pos hmay]
    (conv => arg 3; whnf); repeat ((first | (with_reducible apply sT); rfl | (with_reducible apply sF); rfl | (with_reducible apply sE); rfl); conv => arg 3; whnf)
    have ht2 : 0 ≤ m.term ∧ m.term ≤ 1099511627776 := by have := hmay.term; omega
    refine sat_br (fun h1 => ?_) (fun h1 => ?_)
    · have h1 : m.term > term := of_decide_eq_true h1
      rw [Nd.tk1, if_pos h1]
      dsimp only
      have kl := k_last ⟨me, sv, m.term, 0, 0, 0, commit, left, log, some ks, nxt, mat⟩ cap xs
      have kt := k_term ⟨me, sv, m.term, 0, 0, 0, commit, left, log, some ks, nxt, mat⟩ cap xs h
      have km := k_msg ⟨me, sv, m.term, 0, 0, 0, commit, left, log, some ks, nxt, mat⟩ cap xs 2 m.frm
      have ktk := k_take ⟨me, sv, m.term, 0, 0, 0, commit, left, log, some ks, nxt, mat⟩ cap xs h ⟨ho, hl, hsv, hc, hn, hm, ht2⟩ hl2 m hmay.index hmay.commit (by dsimp only; omega)
      dsimp only at kl kt
      (conv => arg 3; whnf); repeat ((first | (with_reducible apply sT); rfl | (with_reducible apply sF); rfl | (with_reducible apply sE); rfl); conv => arg 3; whnf)
      rw [show (m.term == m.term) = true by simp]
      refine sat_br (fun k1 => ?_) (fun k1 => ?_)
      · have k1 : m.kind = 1 := by simpa using k1
        rw [Nd.tk2, if_pos k1]
        dsimp only
        (conv => arg 3; whnf); repeat ((first | (with_reducible apply sT); rfl | (with_reducible apply sF); rfl | (with_reducible apply sE); rfl); conv => arg 3; whnf)
        refine sat_call km ?_
        rintro r H' ⟨rfl, rfl⟩
        (conv => arg 3; whnf); repeat ((first | (with_reducible apply sT); rfl | (with_reducible apply sF); rfl | (with_reducible apply sE); rfl); conv => arg 3; whnf)
        refine sat_call kl ?_
        rintro r H' ⟨rfl, rfl⟩
        (conv => arg 3; whnf); repeat ((first | (with_reducible apply sT); rfl | (with_reducible apply sF); rfl | (with_reducible apply sE); rfl); conv => arg 3; whnf)
        refine sat_call (kt log.length (by omega) (by omega)) ?_
        rintro r H' ⟨rfl, rfl⟩
        generalize termAt log (log.length : Int) = mine
        (conv => arg 3; whnf); repeat ((first | (with_reducible apply sT); rfl | (with_reducible apply sF); rfl | (with_reducible apply sE); rfl); conv => arg 3; whnf)
        repeat' (first | ((with_reducible refine sat_br (fun hb => ?_) (fun hb => ?_)) <;> ((conv => arg 3; whnf); repeat ((first | (with_reducible apply sT); rfl | (with_reducible apply sF); rfl | (with_reducible apply sE); rfl); conv => arg 3; whnf))) | ((refine sat_call kl ?_); (rintro r H' ⟨rfl, rfl⟩); ((conv => arg 3; whnf); repeat ((first | (with_reducible apply sT); rfl | (with_reducible apply sF); rfl | (with_reducible apply sE); rfl); conv => arg 3; whnf))) | ((refine sat_call (k_patience draw hd) ?_); (rintro r H' ⟨⟨p, rfl, _, _, hp⟩, rfl⟩); (obtain rfl : p = pat draw := hp); ((conv => arg 3; whnf); repeat ((first | (with_reducible apply sT); rfl | (with_reducible apply sF); rfl | (with_reducible apply sE); rfl); conv => arg 3; whnf))))
        all_goals
          clear kl kt km ktk kmay
          first
          | (have hg : (m.prev > mine ∨ m.prev = mine ∧ m.index ≥ (log.length : Int)) := (by simp only [decide_eq_true_eq, decide_eq_false_iff_not, beq_iff_eq, beq_eq_false_iff_ne, ne_eq] at * <;> omega); rw [if_pos ⟨rfl, hg, .inl rfl⟩]; exact sat_ret ⟨cap, xs, some 1, h, rfl, rfl⟩)
          | (have hg : ¬ ((m.prev > mine ∨ m.prev = mine ∧ m.index ≥ (log.length : Int))) := (by simp only [decide_eq_true_eq, decide_eq_false_iff_not, beq_iff_eq, beq_eq_false_iff_ne, ne_eq] at * <;> omega); rw [if_neg (fun hh => hg hh.2.1)]; exact sat_ret ⟨cap, xs, some 1, h, rfl, rfl⟩)
      refine sat_br (fun k2 => ?_) (fun k2 => ?_)
      · have k1 : ¬ m.kind = 1 := by simpa using k1
        have k2 : m.kind = 2 := by simpa using k2
        rw [Nd.tk2, if_neg k1, if_pos k2]
        dsimp only
        (conv => arg 3; whnf); repeat ((first | (with_reducible apply sT); rfl | (with_reducible apply sF); rfl | (with_reducible apply sE); rfl); conv => arg 3; whnf)
        rw [if_neg (fun hh => by simp at hh)]
        exact sat_ret ⟨cap, xs, none, h, rfl, rfl⟩
      refine sat_br (fun k3 => ?_) (fun k3 => ?_)
      · have k1 : ¬ m.kind = 1 := by simpa using k1
        have k2 : ¬ m.kind = 2 := by simpa using k2
        have k3 : m.kind = 3 := by simpa using k3
        have he := hmay.es k3
        rw [Nd.tk2, if_neg k1, if_neg k2, if_pos k3]
        (conv => arg 3; whnf); repeat ((first | (with_reducible apply sT); rfl | (with_reducible apply sF); rfl | (with_reducible apply sE); rfl); conv => arg 3; whnf)
        have ktk := ktk he.1 (fun e h => (terms_pos he.2 e h).1) hes draw hd
        have ev := takeN_votes ⟨me, sv, m.term, 0, 0, 0, commit, left, log, some ks, nxt, mat⟩ m (pat draw)
        generalize Nd.takeN ⟨me, sv, m.term, 0, 0, 0, commit, left, log, some ks, nxt, mat⟩ m (pat draw) = RR at *
        obtain ⟨⟨Nme, Nsv, Nterm, Nvote, Nrole, Nlead, Ncommit, Nleft, Nlog, Nvotes, Nnxt, Nmat⟩, ms⟩ := RR
        dsimp only at ev
        subst ev
        refine sat_call ktk ?_
        rintro r H' ⟨cap', xs', c, hL', rfl, rfl⟩
        (conv => arg 3; whnf); repeat ((first | (with_reducible apply sT); rfl | (with_reducible apply sF); rfl | (with_reducible apply sE); rfl); conv => arg 3; whnf)
        exact sat_ret ⟨cap', xs', c, hL', rfl, rfl⟩
      · have k1 : ¬ m.kind = 1 := by simpa using k1
        have k2 : ¬ m.kind = 2 := by simpa using k2
        have k3 : ¬ m.kind = 3 := by simpa using k3
        have k4 : m.kind = 4 := by have := hmay.kind; omega
        rw [Nd.tk2, if_neg k1, if_neg k2, if_neg k3]
        (conv => arg 3; whnf); repeat ((first | (with_reducible apply sT); rfl | (with_reducible apply sF); rfl | (with_reducible apply sE); rfl); conv => arg 3; whnf)
        rw [show (m.kind == 4) = true by simp [k4]]
        (conv => arg 3; whnf); repeat ((first | (with_reducible apply sT); rfl | (with_reducible apply sF); rfl | (with_reducible apply sE); rfl); conv => arg 3; whnf)
        rw [if_neg (fun hh => by simp at hh)]
        exact sat_ret ⟨cap, xs, none, h, rfl, rfl⟩
    · have h1 : ¬ m.term > term := of_decide_eq_false h1
      rw [Nd.tk1, if_neg h1]
      have kl := k_last ⟨me, sv, term, vote, role, lead, commit, left, log, some ks, nxt, mat⟩ cap xs
      have kt := k_term ⟨me, sv, term, vote, role, lead, commit, left, log, some ks, nxt, mat⟩ cap xs h
      have km := k_msg ⟨me, sv, term, vote, role, lead, commit, left, log, some ks, nxt, mat⟩ cap xs 2 m.frm
      have ktk := k_take ⟨me, sv, term, vote, role, lead, commit, left, log, some ks, nxt, mat⟩ cap xs h ⟨ho, hl, hsv, hc, hn, hm, ht⟩ hl2 m hmay.index hmay.commit (by dsimp only; omega)
      dsimp only at kl kt
      (conv => arg 3; whnf); repeat ((first | (with_reducible apply sT); rfl | (with_reducible apply sF); rfl | (with_reducible apply sE); rfl); conv => arg 3; whnf)
      refine sat_br (fun k1 => ?_) (fun k1 => ?_)
      · have k1 : m.kind = 1 := by simpa using k1
        rw [Nd.tk2, if_pos k1]
        dsimp only
        (conv => arg 3; whnf); repeat ((first | (with_reducible apply sT); rfl | (with_reducible apply sF); rfl | (with_reducible apply sE); rfl); conv => arg 3; whnf)
        refine sat_call km ?_
        rintro r H' ⟨rfl, rfl⟩
        (conv => arg 3; whnf); repeat ((first | (with_reducible apply sT); rfl | (with_reducible apply sF); rfl | (with_reducible apply sE); rfl); conv => arg 3; whnf)
        refine sat_call kl ?_
        rintro r H' ⟨rfl, rfl⟩
        (conv => arg 3; whnf); repeat ((first | (with_reducible apply sT); rfl | (with_reducible apply sF); rfl | (with_reducible apply sE); rfl); conv => arg 3; whnf)
        refine sat_call (kt log.length (by omega) (by omega)) ?_
        rintro r H' ⟨rfl, rfl⟩
        generalize termAt log (log.length : Int) = mine
        (conv => arg 3; whnf); repeat ((first | (with_reducible apply sT); rfl | (with_reducible apply sF); rfl | (with_reducible apply sE); rfl); conv => arg 3; whnf)
        repeat' (first | ((with_reducible refine sat_br (fun hb => ?_) (fun hb => ?_)) <;> ((conv => arg 3; whnf); repeat ((first | (with_reducible apply sT); rfl | (with_reducible apply sF); rfl | (with_reducible apply sE); rfl); conv => arg 3; whnf))) | ((refine sat_call kl ?_); (rintro r H' ⟨rfl, rfl⟩); ((conv => arg 3; whnf); repeat ((first | (with_reducible apply sT); rfl | (with_reducible apply sF); rfl | (with_reducible apply sE); rfl); conv => arg 3; whnf))) | ((refine sat_call (k_patience draw hd) ?_); (rintro r H' ⟨⟨p, rfl, _, _, hp⟩, rfl⟩); (obtain rfl : p = pat draw := hp); ((conv => arg 3; whnf); repeat ((first | (with_reducible apply sT); rfl | (with_reducible apply sF); rfl | (with_reducible apply sE); rfl); conv => arg 3; whnf))))
        all_goals
          clear kl kt km ktk kmay
          first
          | (have hg : m.term = term ∧ (m.prev > mine ∨ m.prev = mine ∧ m.index ≥ (log.length : Int)) ∧ (vote = 0 ∨ vote = m.frm) := (by simp only [decide_eq_true_eq, decide_eq_false_iff_not, beq_iff_eq, beq_eq_false_iff_ne, ne_eq] at * <;> omega); rw [if_pos hg]; exact sat_ret ⟨cap, xs, some 1, h, rfl, rfl⟩)
          | (have hg : ¬ (m.term = term ∧ (m.prev > mine ∨ m.prev = mine ∧ m.index ≥ (log.length : Int)) ∧ (vote = 0 ∨ vote = m.frm)) := (by simp only [decide_eq_true_eq, decide_eq_false_iff_not, beq_iff_eq, beq_eq_false_iff_ne, ne_eq] at * <;> omega); rw [if_neg hg]; exact sat_ret ⟨cap, xs, some 1, h, rfl, rfl⟩)
      refine sat_br (fun k2 => ?_) (fun k2 => ?_)
      · have k1 : ¬ m.kind = 1 := by simpa using k1
        have k2 : m.kind = 2 := by simpa using k2
        rw [Nd.tk2, if_neg k1, if_pos k2]
        dsimp only
        (conv => arg 3; whnf); repeat ((first | (with_reducible apply sT); rfl | (with_reducible apply sF); rfl | (with_reducible apply sE); rfl); conv => arg 3; whnf)
        refine sat_br (fun k3 => ?_) (fun k3 => ?_)
        · have k3 : m.term = term := by simpa using k3
          (conv => arg 3; whnf); repeat ((first | (with_reducible apply sT); rfl | (with_reducible apply sF); rfl | (with_reducible apply sE); rfl); conv => arg 3; whnf)
          refine sat_br (fun k4 => ?_) (fun k4 => ?_)
          · have k4 : role = 1 := by simpa using k4
            (conv => arg 3; whnf); repeat ((first | (with_reducible apply sT); rfl | (with_reducible apply sF); rfl | (with_reducible apply sE); rfl); conv => arg 3; whnf)
            refine sat_br (fun k5 => ?_) (fun k5 => ?_)
            · rw [if_pos ⟨k3, k4, k5⟩]
              obtain ⟨ks', h9, hnd, hks⟩ := hcand k4
              obtain rfl := Option.some.inj h9
              have hK : (addK m.frm ks).length ≤ 5 := keys_le (addK_nodup hnd) (fun k hk => (addK_mem hk).elim (hks k) (fun e => e ▸ hmay.frm)) hsv.2
              have km2 := k_many ⟨me, sv, term, vote, role, lead, commit, left, log, some (addK m.frm ks), nxt, mat⟩ cap xs ((addK m.frm ks).length : Int) (by omega)
              have kld := k_lead ⟨me, sv, term, vote, role, lead, commit, left, log, some (addK m.frm ks), nxt, mat⟩ cap xs h ho hl hsv hc hn hm
              have ev : Nd.voted ⟨me, sv, term, vote, role, lead, commit, left, log, some ks, nxt, mat⟩ m = if 2 * ((addK m.frm ks).length : Int) > sv then (Nd.leadN ⟨me, sv, term, vote, role, lead, commit, left, log, some (addK m.frm ks), nxt, mat⟩, Nd.apps (Nd.leadN ⟨me, sv, term, vote, role, lead, commit, left, log, some (addK m.frm ks), nxt, mat⟩)) else (⟨me, sv, term, vote, role, lead, commit, left, log, some (addK m.frm ks), nxt, mat⟩, []) := rfl
              rw [ev]
              (conv => arg 3; whnf); repeat ((first | (with_reducible apply sT); rfl | (with_reducible apply sF); rfl | (with_reducible apply sE); rfl); conv => arg 3; whnf)
              refine sat_asrt (by rw [kv_fits]; rfl) ?_
              (conv => arg 3; whnf); repeat ((first | (with_reducible apply sT); rfl | (with_reducible apply sF); rfl | (with_reducible apply sE); rfl); conv => arg 3; whnf)
              rw [mput_add, show (kvT (addK m.frm ks)).length = (addK m.frm ks).length by simp]
              refine sat_call km2 ?_
              rintro r H' ⟨rfl, rfl⟩
              (conv => arg 3; whnf); repeat ((first | (with_reducible apply sT); rfl | (with_reducible apply sF); rfl | (with_reducible apply sE); rfl); conv => arg 3; whnf)
              refine sat_br (fun k6 => ?_) (fun k6 => ?_)
              · have k6 : 2 * ((addK m.frm ks).length : Int) > sv := of_decide_eq_true k6
                rw [if_pos k6]
                have e3 := leadN_votes ⟨me, sv, term, vote, role, lead, commit, left, log, some (addK m.frm ks), nxt, mat⟩
                generalize Nd.leadN ⟨me, sv, term, vote, role, lead, commit, left, log, some (addK m.frm ks), nxt, mat⟩ = N at *
                obtain ⟨Nme, Nsv, Nterm, Nvote, Nrole, Nlead, Ncommit, Nleft, Nlog, Nvotes, Nnxt, Nmat⟩ := N
                dsimp only at e3
                subst e3
                (conv => arg 3; whnf); repeat ((first | (with_reducible apply sT); rfl | (with_reducible apply sF); rfl | (with_reducible apply sE); rfl); conv => arg 3; whnf)
                refine sat_call kld ?_
                rintro r H' ⟨cap', xs', hL', rfl, rfl⟩
                (conv => arg 3; whnf); repeat ((first | (with_reducible apply sT); rfl | (with_reducible apply sF); rfl | (with_reducible apply sE); rfl); conv => arg 3; whnf)
                exact sat_ret ⟨cap', xs', none, hL', rfl, rfl⟩
              · have k6 : ¬ 2 * ((addK m.frm ks).length : Int) > sv := of_decide_eq_false k6
                rw [if_neg k6]
                (conv => arg 3; whnf); repeat ((first | (with_reducible apply sT); rfl | (with_reducible apply sF); rfl | (with_reducible apply sE); rfl); conv => arg 3; whnf)
                exact sat_ret ⟨cap, xs, none, h, rfl, rfl⟩
            · rw [if_neg (fun hh => by rw [hh.2.2] at k5; cases k5)]
              (conv => arg 3; whnf); repeat ((first | (with_reducible apply sT); rfl | (with_reducible apply sF); rfl | (with_reducible apply sE); rfl); conv => arg 3; whnf)
              exact sat_ret ⟨cap, xs, none, h, rfl, rfl⟩
          · have k4 : ¬ role = 1 := by simpa using k4
            rw [if_neg (fun hh => k4 hh.2.1)]
            (conv => arg 3; whnf); repeat ((first | (with_reducible apply sT); rfl | (with_reducible apply sF); rfl | (with_reducible apply sE); rfl); conv => arg 3; whnf)
            exact sat_ret ⟨cap, xs, none, h, rfl, rfl⟩
        · have k3 : ¬ m.term = term := by simpa using k3
          rw [if_neg (fun hh => k3 hh.1)]
          (conv => arg 3; whnf); repeat ((first | (with_reducible apply sT); rfl | (with_reducible apply sF); rfl | (with_reducible apply sE); rfl); conv => arg 3; whnf)
          exact sat_ret ⟨cap, xs, none, h, rfl, rfl⟩
      refine sat_br (fun k3 => ?_) (fun k3 => ?_)
      · have k1 : ¬ m.kind = 1 := by simpa using k1
        have k2 : ¬ m.kind = 2 := by simpa using k2
        have k3 : m.kind = 3 := by simpa using k3
        have he := hmay.es k3
        rw [Nd.tk2, if_neg k1, if_neg k2, if_pos k3]
        (conv => arg 3; whnf); repeat ((first | (with_reducible apply sT); rfl | (with_reducible apply sF); rfl | (with_reducible apply sE); rfl); conv => arg 3; whnf)
        have ktk := ktk he.1 (fun e h => (terms_pos he.2 e h).1) hes draw hd
        have ev := takeN_votes ⟨me, sv, term, vote, role, lead, commit, left, log, some ks, nxt, mat⟩ m (pat draw)
        generalize Nd.takeN ⟨me, sv, term, vote, role, lead, commit, left, log, some ks, nxt, mat⟩ m (pat draw) = RR at *
        obtain ⟨⟨Nme, Nsv, Nterm, Nvote, Nrole, Nlead, Ncommit, Nleft, Nlog, Nvotes, Nnxt, Nmat⟩, ms⟩ := RR
        dsimp only at ev
        subst ev
        refine sat_call ktk ?_
        rintro r H' ⟨cap', xs', c, hL', rfl, rfl⟩
        (conv => arg 3; whnf); repeat ((first | (with_reducible apply sT); rfl | (with_reducible apply sF); rfl | (with_reducible apply sE); rfl); conv => arg 3; whnf)
        exact sat_ret ⟨cap', xs', c, hL', rfl, rfl⟩
      · have k1 : ¬ m.kind = 1 := by simpa using k1
        have k2 : ¬ m.kind = 2 := by simpa using k2
        have k3 : ¬ m.kind = 3 := by simpa using k3
        have k4 : m.kind = 4 := by have := hmay.kind; omega
        rw [Nd.tk2, if_neg k1, if_neg k2, if_neg k3]
        (conv => arg 3; whnf); repeat ((first | (with_reducible apply sT); rfl | (with_reducible apply sF); rfl | (with_reducible apply sE); rfl); conv => arg 3; whnf)
        rw [show (m.kind == 4) = true by simp [k4]]
        (conv => arg 3; whnf); repeat ((first | (with_reducible apply sT); rfl | (with_reducible apply sF); rfl | (with_reducible apply sE); rfl); conv => arg 3; whnf)
        refine sat_br (fun k5 => ?_) (fun k5 => ?_)
        · have k5 : m.term = term := by simpa using k5
          (conv => arg 3; whnf); repeat ((first | (with_reducible apply sT); rfl | (with_reducible apply sF); rfl | (with_reducible apply sE); rfl); conv => arg 3; whnf)
          refine sat_br (fun k6 => ?_) (fun k6 => ?_)
          · have k6 : role = 2 := by simpa using k6
            rw [if_pos (show m.term = term ∧ role = 2 from ⟨k5, k6⟩)]
            have hb := hld k6
            have hbf := hb m.frm hmay.frm
            have hf5 : 1 ≤ m.frm ∧ m.frm ≤ 5 := by have := hmay.frm; dsimp only at this; omega
            have khd := k_heard ⟨me, sv, term, vote, role, lead, commit, left, log, some ks, nxt, mat⟩ cap xs h hl hsv hc hn hm m hmay.frm hmay.index (by omega) (by omega)
            have hfc := heard_facts ⟨me, sv, term, vote, role, lead, commit, left, log, some ks, nxt, mat⟩ m hn hm hf5 hmay.index.1 hb hmay.frm.2
            have ev := heard_votes ⟨me, sv, term, vote, role, lead, commit, left, log, some ks, nxt, mat⟩ m
            generalize Nd.heard ⟨me, sv, term, vote, role, lead, commit, left, log, some ks, nxt, mat⟩ m = RR at *
            obtain ⟨⟨Nme, Nsv, Nterm, Nvote, Nrole, Nlead, Ncommit, Nleft, Nlog, Nvotes, Nnxt, Nmat⟩, q⟩ := RR
            obtain ⟨f1, f2, f3, f4, f5⟩ := hfc
            dsimp only at ev f1 f2 f3 f4 f5
            subst ev f1
            (conv => arg 3; whnf); repeat ((first | (with_reducible apply sT); rfl | (with_reducible apply sF); rfl | (with_reducible apply sE); rfl); conv => arg 3; whnf)
            refine sat_call khd ?_
            rintro r H' ⟨cap', xs', hL', rfl, rfl⟩
            have kap := k_append ⟨Nme, Nsv, Nterm, Nvote, Nrole, Nlead, Ncommit, Nleft, Nlog, some ks, Nnxt, Nmat⟩ cap' xs' hL' ho (by dsimp only; omega) m.frm (by omega) f2 (f5 m.frm hmay.frm).1
            (conv => arg 3; whnf); repeat ((first | (with_reducible apply sT); rfl | (with_reducible apply sF); rfl | (with_reducible apply sE); rfl); conv => arg 3; whnf)
            refine sat_br (fun k7 => ?_) (fun k7 => ?_)
            · dsimp only at k7
              subst k7
              rw [if_pos rfl]
              (conv => arg 3; whnf); repeat ((first | (with_reducible apply sT); rfl | (with_reducible apply sF); rfl | (with_reducible apply sE); rfl); conv => arg 3; whnf)
              refine sat_call kap ?_
              rintro r H' ⟨rfl, rfl⟩
              (conv => arg 3; whnf); repeat ((first | (with_reducible apply sT); rfl | (with_reducible apply sF); rfl | (with_reducible apply sE); rfl); conv => arg 3; whnf)
              rw [esT_take]
              exact sat_ret ⟨cap', xs', some 1, hL', rfl, rfl⟩
            · dsimp only at k7
              subst k7
              rw [if_neg (by simp)]
              (conv => arg 3; whnf); repeat ((first | (with_reducible apply sT); rfl | (with_reducible apply sF); rfl | (with_reducible apply sE); rfl); conv => arg 3; whnf)
              exact sat_ret ⟨cap', xs', none, hL', rfl, rfl⟩
          · have k6 : ¬ role = 2 := by simpa using k6
            rw [if_neg (fun hh => k6 hh.2)]
            (conv => arg 3; whnf); repeat ((first | (with_reducible apply sT); rfl | (with_reducible apply sF); rfl | (with_reducible apply sE); rfl); conv => arg 3; whnf)
            exact sat_ret ⟨cap, xs, none, h, rfl, rfl⟩
        · have k5 : ¬ m.term = term := by simpa using k5
          rw [if_neg (fun hh => k5 hh.1)]
          (conv => arg 3; whnf); repeat ((first | (with_reducible apply sT); rfl | (with_reducible apply sF); rfl | (with_reducible apply sE); rfl); conv => arg 3; whnf)
          exact sat_ret ⟨cap, xs, none, h, rfl, rfl⟩
end Stk
