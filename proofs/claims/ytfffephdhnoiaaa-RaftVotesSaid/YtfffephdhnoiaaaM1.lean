/- The servers: entries and messages as data; the small functions of entries. -/
import Derived.Test.YtfffephdhnoiaaaWk
namespace Stk
open Go
set_option maxRecDepth 100000
set_option linter.unusedSimpArgs false
set_option linter.unusedVariables false
set_option maxHeartbeats 4000000
abbrev u8 (n : Int) : Tr := .int .u8 n
abbrev i6 (n : Int) : Tr := .int .i64 n
abbrev ti (n : Int) : AV := .t (.int .i64 n)
abbrev tb (b : Bool) : AV := .t (.bool b)
abbrev pt (b : Nat) : AV := .ptr b 0 0 [] none
/-- A command. f: its data is known to have no more room. -/
structure Cm where
  kind : Int
  client : Int
  seq : Int
  node : Int
  epoch : Int
  yes : Bool
  hash : List Tr
  f : Bool
  data : List Tr
abbrev Cm.t (c : Cm) : Tr := .agg [u8 c.kind, i6 c.client, i6 c.seq, i6 c.node, i6 c.epoch, .bool c.yes, .arr 32 c.hash, .sl c.f 1 c.data]
/-- The command, lent. -/
abbrev Cm.l (c : Cm) : AV := .agg [.t (u8 c.kind), ti c.client, ti c.seq, ti c.node, ti c.epoch, tb c.yes, .t (.arr 32 c.hash), .bz 1 c.data]
structure En where
  term : Int
  cmd : Cm
abbrev En.t (e : En) : Tr := .agg [i6 e.term, e.cmd.t]
abbrev En.l (e : En) : AV := .agg [ti e.term, e.cmd.l]
abbrev En.OK (e : En) : Prop := e.cmd.data.length ≤ 2 ^ 47
def En.own (e : En) : En := ⟨e.term, { e.cmd with f := false }⟩
theorem En.own_OK {e : En} (h : e.OK) : e.own.OK := h
theorem k_clone (L : List Tr) (h : L.length ≤ 2 ^ 47) : ACalls PP GG F.bytes_Clone [.bz 1 L] [] fun r H' => r = .sl 0 0 [] 0 L.length none ∧ H' = [.row 1 L] := by
  refine K.bytes_Clone.callsC rfl ?_
  (conv => arg 3; whnf); repeat ((first | (with_reducible apply sT); rfl | (with_reducible apply sF); rfl | (with_reducible apply sE); rfl); conv => arg 3; whnf)
  refine sat_br (fun h1 => ?_) (fun h1 => ?_)
  · have : L = [] := by simpa using h1
    subst this
    refine sat_any ?_ ?_
    · (conv => arg 3; whnf); repeat ((first | (with_reducible apply sT); rfl | (with_reducible apply sF); rfl | (with_reducible apply sE); rfl); conv => arg 3; whnf)
      exact sat_ret ⟨rfl, rfl⟩
    · (conv => arg 3; whnf); repeat ((first | (with_reducible apply sT); rfl | (with_reducible apply sF); rfl | (with_reducible apply sE); rfl); conv => arg 3; whnf)
      refine sat_asrt (by decide) ?_
      (conv => arg 3; whnf); repeat ((first | (with_reducible apply sT); rfl | (with_reducible apply sF); rfl | (with_reducible apply sE); rfl); conv => arg 3; whnf)
      exact sat_ret ⟨rfl, rfl⟩
  · (conv => arg 3; whnf); repeat ((first | (with_reducible apply sT); rfl | (with_reducible apply sF); rfl | (with_reducible apply sE); rfl); conv => arg 3; whnf)
    refine sat_asrt (by simp [roomy]; omega) ?_
    (conv => arg 3; whnf); repeat ((first | (with_reducible apply sT); rfl | (with_reducible apply sF); rfl | (with_reducible apply sE); rfl); conv => arg 3; whnf)
    exact sat_ret ⟨rfl, rfl⟩
/-- An entry in memory of its own. -/
theorem k_own (e : En) (he : e.OK) : ACalls PP GG F.raft_own [e.l] [] fun r H' =>
    r = .agg [ti e.term, .agg [.t (u8 e.cmd.kind), ti e.cmd.client, ti e.cmd.seq, ti e.cmd.node, ti e.cmd.epoch, tb e.cmd.yes, .t (.arr 32 e.cmd.hash), .sl 0 0 [] 0 e.cmd.data.length none]] ∧ H' = [.row 1 e.cmd.data] := by
  refine K.raft_own.callsC rfl ?_
  (conv => arg 3; whnf); repeat ((first | (with_reducible apply sT); rfl | (with_reducible apply sF); rfl | (with_reducible apply sE); rfl); conv => arg 3; whnf)
  refine sat_call (k_clone _ he) ?_
  rintro r H' ⟨rfl, rfl⟩
  (conv => arg 3; whnf); repeat ((first | (with_reducible apply sT); rfl | (with_reducible apply sF); rfl | (with_reducible apply sE); rfl); conv => arg 3; whnf)
  exact sat_ret ⟨rfl, rfl⟩
theorem k_patience (n : Int) (h : -9223372036854775808 ≤ n ∧ n ≤ 9223372036854775807) : ACalls PP GG F.raft_patience [ti n] [] fun r H' => (∃ p, r = ti p ∧ 10 ≤ p ∧ p ≤ 19 ∧ p = 10 + (n.tmod 10 + 10).tmod 10) ∧ H' = [] := by
  have h1 : -10 < n.tmod 10 ∧ n.tmod 10 < 10 := ⟨by have := Int.tmod_lt_of_pos (-n) (by decide : (0:Int) < 10); rw [Int.neg_tmod] at this; omega, Int.tmod_lt_of_pos n (by decide)⟩
  have h2 : 0 ≤ (n.tmod 10 + 10).tmod 10 ∧ (n.tmod 10 + 10).tmod 10 < 10 := ⟨Int.tmod_nonneg _ (by omega), Int.tmod_lt_of_pos _ (by decide)⟩
  refine K.raft_patience.callsC rfl ?_
  (conv => arg 3; whnf); repeat ((first | (with_reducible apply sT); rfl | (with_reducible apply sF); rfl | (with_reducible apply sE); rfl); conv => arg 3; whnf)
  refine sat_asrt (by decide) ?_
  (conv => arg 3; whnf); repeat ((first | (with_reducible apply sT); rfl | (with_reducible apply sF); rfl | (with_reducible apply sE); rfl); conv => arg 3; whnf)
  refine sat_rng (wrap64 (by omega) (by omega)) ?_
  (conv => arg 3; whnf); repeat ((first | (with_reducible apply sT); rfl | (with_reducible apply sF); rfl | (with_reducible apply sE); rfl); conv => arg 3; whnf)
  refine sat_asrt (by decide) ?_
  (conv => arg 3; whnf); repeat ((first | (with_reducible apply sT); rfl | (with_reducible apply sF); rfl | (with_reducible apply sE); rfl); conv => arg 3; whnf)
  refine sat_rng (wrap64 (by omega) (by omega)) ?_
  (conv => arg 3; whnf); repeat ((first | (with_reducible apply sT); rfl | (with_reducible apply sF); rfl | (with_reducible apply sE); rfl); conv => arg 3; whnf)
  exact sat_ret ⟨⟨_, rfl, by omega, by omega, rfl⟩, rfl⟩
abbrev z32 : Tr := .arr 32 (List.replicate 32 (.int .u8 0))
abbrev zE : Tr := .agg [.int .i64 0, .agg [.int .u8 0, .int .i64 0, .int .i64 0, .int .i64 0, .int .i64 0, .bool false, z32, .sl true 1 []]]
abbrev esT (L : List En) : List Tr := L.map En.t
def owned (L : List En) : List En := L.map En.own
theorem owned_len (L : List En) : (owned L).length = L.length := by simp [owned]
def EsOK (L : List En) : Prop := ∀ e ∈ L, e.OK
theorem owned_ok {L : List En} (h : EsOK L) : EsOK (owned L) := fun e he => by
  simp only [owned, List.mem_map] at he
  obtain ⟨x, hx, rfl⟩ := he
  exact h x hx
abbrev oRow (L : List En) (i : Nat) : List Tr := (L.take i).map (fun e => e.own.t) ++ List.replicate (L.length - i) zE
theorem oRow_over {L : List En} {i : Nat} {e : En} (h : L[i]? = some e) : over (oRow L i) (0 + i) [e.own.t] = oRow L (i + 1) := by
  have hi : i < L.length := (List.getElem?_eq_some_iff.1 h).1
  have hl : ((L.take i).map (fun e => e.own.t)).length = i := by simp; omega
  have ht : L.take (i + 1) = L.take i ++ [e] := by rw [List.take_add_one, h]; rfl
  rw [Nat.zero_add]
  unfold over oRow
  rw [ht, List.map_append, List.take_append_of_le_length (by omega), List.take_of_length_le (by omega)]
  congr 1
  rw [List.length_singleton, List.drop_append, hl, List.drop_eq_nil_of_le (by omega), List.nil_append, List.drop_replicate, show L.length - i - (i + 1 - i) = L.length - (i + 1) by omega]
structure OwSt (L : List En) where
  i : Nat
  hi : i ≤ L.length
theorem k_owned (L : List En) (hL : EsOK L) (hl : L.length ≤ 2 ^ 38) : ACalls PP GG F.raft_owned [.bz 40 (esT L)] [] fun r H' => r = .sl 0 0 [] 0 L.length (some L.length) ∧ H' = [.row 40 (esT (owned L))] := by
  refine K.raft_owned.callsC rfl ?_
  (conv => arg 3; whnf); repeat ((first | (with_reducible apply sT); rfl | (with_reducible apply sF); rfl | (with_reducible apply sE); rfl); conv => arg 3; whnf)
  have el : (esT L).length = L.length := by simp
  rw [el]
  refine sat_asrt (by simp; omega) ?_
  (conv => arg 3; whnf); repeat ((first | (with_reducible apply sT); rfl | (with_reducible apply sF); rfl | (with_reducible apply sE); rfl); conv => arg 3; whnf)
  rw [show ((L.length : Int)).toNat = L.length from rfl, el]
  refine sat_loopOf mkX_ops (σ := OwSt L) (fun x => [(3, .sl 0 0 [] 0 x.i (some L.length)), (9, .bz 40 (esT L)), (10, ti L.length), (11, ti x.i)]) (fun x => [.row 40 (oRow L x.i)]) (fun x => L.length - x.i)
    (fun ex fr' H' => ex = .exit 0 ∧ fr' = [(3, .sl 0 0 [] 0 L.length (some L.length))] ∧ H' = [.row 40 (oRow L L.length)]) ⟨0, Nat.zero_le _⟩ ?_ ?_
  · rintro ⟨i, hi⟩
    dsimp only
    (conv => arg 3; whnf); repeat ((first | (with_reducible apply sT); rfl | (with_reducible apply sF); rfl | (with_reducible apply sE); rfl); conv => arg 3; whnf)
    refine sat_br (fun h => ?_) (fun h => ?_)
    · have h : i < L.length := by have := of_decide_eq_true h; omega
      have hu : L[i]? = some L[i] := List.getElem?_eq_getElem h
      generalize L[i] = u at hu
      have hu1 := hL _ (List.mem_of_getElem? hu)
      (conv => arg 3; whnf); repeat ((first | (with_reducible apply sT); rfl | (with_reducible apply sF); rfl | (with_reducible apply sE); rfl); conv => arg 3; whnf)
      refine sat_idx u.t (by simp) (by rw [Int.toNat_natCast]; simp [hu]) ?_
      (conv => arg 3; whnf); repeat ((first | (with_reducible apply sT); rfl | (with_reducible apply sF); rfl | (with_reducible apply sE); rfl); conv => arg 3; whnf)
      refine sat_call (k_own u hu1) ?_
      rintro r H' ⟨rfl, rfl⟩
      have hov := oRow_over hu
      generalize oRow L i = X at *
      obtain ⟨k, hk⟩ : ∃ k, L.length = k + 1 := ⟨L.length - 1, by omega⟩
      rw [hk]
      rw [hk] at h
      (conv => arg 3; whnf); repeat ((first | (with_reducible apply sT); rfl | (with_reducible apply sF); rfl | (with_reducible apply sE); rfl); conv => arg 3; whnf)
      rw [show List.take u.cmd.data.length (List.drop 0 u.cmd.data) = u.cmd.data by simp]
      refine sat_br (fun h2 => ?_) (fun h2 => ?_)
      · (conv => arg 3; whnf); repeat ((first | (with_reducible apply sT); rfl | (with_reducible apply sF); rfl | (with_reducible apply sE); rfl); conv => arg 3; whnf)
        refine sat_rng (wrap64 (by omega) (by omega)) ?_
        refine sat_ret ⟨⟨i + 1, by omega⟩, rfl, ?_, by show k + 1 - (i + 1) < k + 1 - i; omega⟩
        · show [AO.row 40 (over X (0 + i) [u.own.t])] = [AO.row 40 (oRow L (i + 1))]
          rw [hov]
      · have := of_decide_eq_false h2
        simp at this
        omega
    · have h : i = L.length := by have := of_decide_eq_false h; omega
      subst h
      (conv => arg 3; whnf); repeat ((first | (with_reducible apply sT); rfl | (with_reducible apply sF); rfl | (with_reducible apply sE); rfl); conv => arg 3; whnf)
      exact sat_ret ⟨rfl, rfl, rfl⟩
  · rintro ex fr' H' ⟨rfl, rfl, rfl⟩
    (conv => arg 3; whnf); repeat ((first | (with_reducible apply sT); rfl | (with_reducible apply sF); rfl | (with_reducible apply sE); rfl); conv => arg 3; whnf)
    refine sat_ret ⟨rfl, ?_⟩
    have : oRow L L.length = esT (owned L) := by
      unfold oRow esT owned
      rw [List.take_length, Nat.sub_self, List.replicate_zero, List.append_nil, List.map_map]; rfl
    rw [this]
def termsOK : List En → Int → Int → Bool
  | [], _, _ => true
  | e :: r, least, most => if e.term < max least 1 ∨ e.term > most then false else termsOK r e.term most
theorem termsOK_drop {L : List En} {i : Nat} {e : En} (h : L[i]? = some e) (a m : Int) : termsOK (L.drop i) a m = if e.term < max a 1 ∨ e.term > m then false else termsOK (L.drop (i + 1)) e.term m := by
  have hi := (List.getElem?_eq_some_iff.1 h).1
  have : L[i] = e := (List.getElem?_eq_some_iff.1 h).2
  rw [List.drop_eq_getElem_cons hi, this]; rfl
structure RiSt (L : List En) (a m : Int) where
  i : Nat
  v : Int
  hi : i ≤ L.length
  h : termsOK (L.drop i) v m = termsOK L a m
theorem k_right (L : List En) (a m : Int) (hl : L.length ≤ 2 ^ 60) : ACalls PP GG F.raft_right [.bz 40 (esT L), ti a, ti m] [] fun r H' => r = tb (termsOK L a m) ∧ H' = [] := by
  refine K.raft_right.callsC rfl ?_
  (conv => arg 3; whnf); repeat ((first | (with_reducible apply sT); rfl | (with_reducible apply sF); rfl | (with_reducible apply sE); rfl); conv => arg 3; whnf)
  have el : (esT L).length = L.length := by simp
  rw [el]
  refine sat_loopOf mkX_ops (σ := RiSt L a m) (fun x => [(1, ti x.v), (2, ti m), (9, .bz 40 (esT L)), (10, ti L.length), (11, ti x.i)]) (fun _ => []) (fun x => L.length - x.i)
    (fun ex fr' H' => (ex = .ret ∧ fr' = [(6, tb false)] ∧ (∃ u : En, H' = [.var (.t u.t)]) ∧ termsOK L a m = false) ∨ (ex = .exit 0 ∧ fr' = [(6, .undef)] ∧ H' = [] ∧ termsOK L a m = true)) ⟨0, a, Nat.zero_le _, rfl⟩ ?_ ?_
  · rintro ⟨i, v, hi, hv⟩
    dsimp only
    (conv => arg 3; whnf); repeat ((first | (with_reducible apply sT); rfl | (with_reducible apply sF); rfl | (with_reducible apply sE); rfl); conv => arg 3; whnf)
    refine sat_br (fun h => ?_) (fun h => ?_)
    · have h : i < L.length := by have := of_decide_eq_true h; omega
      have hu : L[i]? = some L[i] := List.getElem?_eq_getElem h
      generalize L[i] = u at hu
      rw [termsOK_drop hu] at hv
      (conv => arg 3; whnf); repeat ((first | (with_reducible apply sT); rfl | (with_reducible apply sF); rfl | (with_reducible apply sE); rfl); conv => arg 3; whnf)
      refine sat_idx u.t (by simp) (by rw [Int.toNat_natCast]; simp [hu]) ?_
      (conv => arg 3; whnf); repeat ((first | (with_reducible apply sT); rfl | (with_reducible apply sF); rfl | (with_reducible apply sE); rfl); conv => arg 3; whnf)
      refine sat_br (fun h2 => ?_) (fun h2 => ?_)
      · have h2 := of_decide_eq_true h2
        (conv => arg 3; whnf); repeat ((first | (with_reducible apply sT); rfl | (with_reducible apply sF); rfl | (with_reducible apply sE); rfl); conv => arg 3; whnf)
        rw [if_pos (.inl h2)] at hv
        exact sat_ret (.inl ⟨rfl, rfl, ⟨u, rfl⟩, hv.symm⟩)
      · have h2 := of_decide_eq_false h2
        (conv => arg 3; whnf); repeat ((first | (with_reducible apply sT); rfl | (with_reducible apply sF); rfl | (with_reducible apply sE); rfl); conv => arg 3; whnf)
        refine sat_br (fun h3 => ?_) (fun h3 => ?_)
        · have h3 := of_decide_eq_true h3
          (conv => arg 3; whnf); repeat ((first | (with_reducible apply sT); rfl | (with_reducible apply sF); rfl | (with_reducible apply sE); rfl); conv => arg 3; whnf)
          rw [if_pos (.inr h3)] at hv
          exact sat_ret (.inl ⟨rfl, rfl, ⟨u, rfl⟩, hv.symm⟩)
        · have h3 := of_decide_eq_false h3
          (conv => arg 3; whnf); repeat ((first | (with_reducible apply sT); rfl | (with_reducible apply sF); rfl | (with_reducible apply sE); rfl); conv => arg 3; whnf)
          refine sat_rng (wrap64 (by omega) (by omega)) ?_
          rw [if_neg (by rintro (h | h) <;> omega)] at hv
          exact sat_ret ⟨⟨i + 1, u.term, by omega, hv⟩, rfl, rfl, by show L.length - (i + 1) < L.length - i; omega⟩
    · have h : i = L.length := by have := of_decide_eq_false h; omega
      subst h
      rw [List.drop_length] at hv
      (conv => arg 3; whnf); repeat ((first | (with_reducible apply sT); rfl | (with_reducible apply sF); rfl | (with_reducible apply sE); rfl); conv => arg 3; whnf)
      exact sat_ret (.inr ⟨rfl, rfl, rfl, hv.symm⟩)
  · rintro ex fr' H' (⟨rfl, rfl, ⟨u, rfl⟩, h⟩ | ⟨rfl, rfl, rfl, h⟩)
    · (conv => arg 3; whnf); repeat ((first | (with_reducible apply sT); rfl | (with_reducible apply sF); rfl | (with_reducible apply sE); rfl); conv => arg 3; whnf)
      exact sat_ret ⟨by rw [h], rfl⟩
    · (conv => arg 3; whnf); repeat ((first | (with_reducible apply sT); rfl | (with_reducible apply sF); rfl | (with_reducible apply sE); rfl); conv => arg 3; whnf)
      exact sat_ret ⟨by rw [h], rfl⟩
structure Nd where
  me : Int
  sv : Int
  term : Int
  vote : Int
  role : Int
  lead : Int
  commit : Int
  left : Int
  log : List En
  votes : Option (List Int)
  nxt : List Int
  mat : List Int
abbrev iT (L : List Int) : List Tr := L.map i6
abbrev kvT (ks : List Int) : List (Tr × Tr) := ks.map fun k => (i6 k, .bool true)
abbrev voteV (b : Nat) (v : Option (List Int)) : AV := match v with
  | none => .t .nilm
  | some _ => .mp b
abbrev voteO (v : Option (List Int)) : Hp := match v with
  | none => []
  | some ks => [.map (kvT ks)]
abbrev nodeW (n : Nd) (b m : Nat) (cap : Option Nat) : AV := .agg [ti n.me, ti n.sv, .agg [ti n.term, ti n.vote, .sl b 0 [] 0 n.log.length cap], ti n.role, ti n.lead, ti n.commit, ti n.left, voteV m n.votes, .t (.arr 6 (iT n.nxt)), .t (.arr 6 (iT n.mat))]
abbrev nodeV (n : Nd) (b : Nat) (cap : Option Nat) : AV := nodeW n b (b + 1) cap
/-- A server's memory, as a callee sees it. -/
abbrev Nd.H (n : Nd) (cap : Option Nat) (xs : List Tr) : Hp := .var (nodeV n 1 cap) :: .row 40 xs :: voteO n.votes
/-- A server's memory, as a callee leaves it that has moved the log. -/
abbrev Nd.D (n : Nd) (g : Nat) (cap : Option Nat) (xs : List Tr) : Hp := .var (nodeV n (g + 1) cap) :: (List.replicate g .gone ++ .row 40 xs :: voteO n.votes)
/-- How many blocks a server's memory has besides the server. -/
abbrev Nd.g (n : Nd) : Nat := (voteO n.votes).length + 1
/-- A row that begins with the log. -/
structure LogR (L : List En) (xs : List Tr) (cap : Option Nat) : Prop where
  t : xs.take L.length = esT L
  l : L.length ≤ xs.length
  c : cap = none ∨ cap = some L.length
  n : cap = none → xs.length = L.length
theorem LogR.get {L : List En} {xs : List Tr} {cap : Option Nat} (h : LogR L xs cap) {i : Nat} {e : En} (he : L[i]? = some e) : xs[i]? = some e.t := by
  have hi := (List.getElem?_eq_some_iff.1 he).1
  have : (xs.take L.length)[i]? = some e.t := by rw [h.t]; simp [he]
  rwa [List.getElem?_take_of_lt hi] at this
theorem LogR.self (L : List En) : LogR L (esT L) none := ⟨by rw [List.take_of_length_le (by simp)], by simp, .inl rfl, fun _ => by simp⟩
theorem LogR.full (L : List En) : LogR L (esT L) (some L.length) := ⟨by rw [List.take_of_length_le (by simp)], by simp, .inr rfl, fun h => by cases h⟩
def termAt (L : List En) (a : Int) : Int := if a < 1 ∨ a > (L.length : Int) then 0 else ((L[(a - 1).toNat]?).map En.term).getD 0

theorem k_last (n : Nd) (cap : Option Nat) (xs : List Tr) : ACalls PP GG F.raft_Node_last [pt 0] (n.H cap xs) fun r H' => r = ti n.log.length ∧ H' = n.H cap xs := by
  obtain ⟨me, sv, term, vote, role, lead, commit, left, log, votes, nxt, mat⟩ := n
  cases votes
  all_goals
    refine K.raft_Node_last.callsQ rfl ?_
    (conv => arg 3; whnf); repeat ((first | (with_reducible apply sT); rfl | (with_reducible apply sF); rfl | (with_reducible apply sE); rfl); conv => arg 3; whnf)
    exact sat_ret ⟨rfl, rfl⟩
theorem k_many (n : Nd) (cap : Option Nat) (xs : List Tr) (k : Int) (hk : -1000 ≤ k ∧ k ≤ 1000) : ACalls PP GG F.raft_Node_many [pt 0, ti k] (n.H cap xs) fun r H' => r = tb (decide (2 * k > n.sv)) ∧ H' = n.H cap xs := by
  obtain ⟨me, sv, term, vote, role, lead, commit, left, log, votes, nxt, mat⟩ := n
  cases votes
  all_goals
    refine K.raft_Node_many.callsQ rfl ?_
    (conv => arg 3; whnf); repeat ((first | (with_reducible apply sT); rfl | (with_reducible apply sF); rfl | (with_reducible apply sE); rfl); conv => arg 3; whnf)
    refine sat_rng (wrap64 (by omega) (by omega)) ?_
    (conv => arg 3; whnf); repeat ((first | (with_reducible apply sT); rfl | (with_reducible apply sF); rfl | (with_reducible apply sE); rfl); conv => arg 3; whnf)
    exact sat_ret ⟨rfl, rfl⟩
theorem k_term (n : Nd) (cap : Option Nat) (xs : List Tr) (h : LogR n.log xs cap) (a : Int) (ha : -9223372036854775807 ≤ a ∧ a ≤ 9223372036854775807) (hl : n.log.length ≤ 1000) :
    ACalls PP GG F.raft_Node_term [pt 0, ti a] (n.H cap xs) fun r H' => r = ti (termAt n.log a) ∧ H' = n.H cap xs := by
  have kl := k_last n cap xs
  obtain ⟨me, sv, term, vote, role, lead, commit, left, log, votes, nxt, mat⟩ := n
  have ht : ∀ (h1 : ¬ a < 1) (h2 : ¬ a > (log.length : Int)), ∃ e, log[(a - 1).toNat]? = some e ∧ termAt log a = e.term := by
    intro h1 h2
    have : (a - 1).toNat < log.length := by omega
    refine ⟨_, List.getElem?_eq_getElem this, ?_⟩
    unfold termAt
    rw [if_neg (by omega), List.getElem?_eq_getElem this]; rfl
  cases votes
  all_goals
    refine K.raft_Node_term.callsQ rfl ?_
    (conv => arg 3; whnf); repeat ((first | (with_reducible apply sT); rfl | (with_reducible apply sF); rfl | (with_reducible apply sE); rfl); conv => arg 3; whnf)
    refine sat_br (fun h1 => ?_) (fun h1 => ?_)
    · have h1 := of_decide_eq_true h1
      (conv => arg 3; whnf); repeat ((first | (with_reducible apply sT); rfl | (with_reducible apply sF); rfl | (with_reducible apply sE); rfl); conv => arg 3; whnf)
      exact sat_ret ⟨by rw [termAt, if_pos (.inl h1)], rfl⟩
    · have h1 := of_decide_eq_false h1
      (conv => arg 3; whnf); repeat ((first | (with_reducible apply sT); rfl | (with_reducible apply sF); rfl | (with_reducible apply sE); rfl); conv => arg 3; whnf)
      refine sat_call kl ?_
      rintro r H' ⟨rfl, rfl⟩
      (conv => arg 3; whnf); repeat ((first | (with_reducible apply sT); rfl | (with_reducible apply sF); rfl | (with_reducible apply sE); rfl); conv => arg 3; whnf)
      refine sat_br (fun h2 => ?_) (fun h2 => ?_)
      · have h2 := of_decide_eq_true h2
        (conv => arg 3; whnf); repeat ((first | (with_reducible apply sT); rfl | (with_reducible apply sF); rfl | (with_reducible apply sE); rfl); conv => arg 3; whnf)
        exact sat_ret ⟨by rw [termAt, if_pos (.inr h2)], rfl⟩
      · have h2 := of_decide_eq_false h2
        obtain ⟨e, he, hte⟩ := ht h1 h2
        (conv => arg 3; whnf); repeat ((first | (with_reducible apply sT); rfl | (with_reducible apply sF); rfl | (with_reducible apply sE); rfl); conv => arg 3; whnf)
        refine sat_rng (wrap64 (by omega) (by omega)) ?_
        (conv => arg 3; whnf); repeat ((first | (with_reducible apply sT); rfl | (with_reducible apply sF); rfl | (with_reducible apply sE); rfl); conv => arg 3; whnf)
        refine sat_asrt (by simp; simp at h2; omega) ?_
        (conv => arg 3; whnf); repeat ((first | (with_reducible apply sT); rfl | (with_reducible apply sF); rfl | (with_reducible apply sE); rfl); conv => arg 3; whnf)
        refine sat_idx e.t (by simp) (by rw [Nat.zero_add]; exact h.get he) ?_
        (conv => arg 3; whnf); repeat ((first | (with_reducible apply sT); rfl | (with_reducible apply sF); rfl | (with_reducible apply sE); rfl); conv => arg 3; whnf)
        exact sat_ret ⟨by rw [hte], rfl⟩
/-- A message that a server makes. -/
structure Mo where
  kind : Int
  frm : Int
  to : Int
  term : Int
  index : Int := 0
  prev : Int := 0
  commit : Int := 0
  yes : Bool := false
  f : Bool := true
  es : List En := []
abbrev Mo.t (m : Mo) : Tr := .agg [u8 m.kind, i6 m.frm, i6 m.to, i6 m.term, i6 m.index, i6 m.prev, i6 m.commit, i6 0, i6 0, i6 0, .bool m.yes, i6 0, z32, .sl m.f 40 (esT m.es), .sl true 1 []]
def Nd.msg (n : Nd) (kind to : Int) : Mo := { kind, frm := n.me, to, term := n.term }
theorem k_msg (n : Nd) (cap : Option Nat) (xs : List Tr) (kind to : Int) : ACalls PP GG F.raft_Node_msg [pt 0, .t (u8 kind), ti to] (n.H cap xs) fun r H' => r = .t (n.msg kind to).t ∧ H' = n.H cap xs := by
  obtain ⟨me, sv, term, vote, role, lead, commit, left, log, votes, nxt, mat⟩ := n
  cases votes
  all_goals
    refine K.raft_Node_msg.callsQ rfl ?_
    (conv => arg 3; whnf); repeat ((first | (with_reducible apply sT); rfl | (with_reducible apply sF); rfl | (with_reducible apply sE); rfl); conv => arg 3; whnf)
    exact sat_ret ⟨rfl, rfl⟩
theorem k_commit (n : Nd) (cap : Option Nat) (xs : List Tr) : ACalls PP GG F.raft_Node_Commit [pt 0] (n.H cap xs) fun r H' => r = ti n.commit ∧ H' = n.H cap xs := by
  obtain ⟨me, sv, term, vote, role, lead, commit, left, log, votes, nxt, mat⟩ := n
  cases votes
  all_goals
    refine K.raft_Node_Commit.callsQ rfl ?_
    (conv => arg 3; whnf); repeat ((first | (with_reducible apply sT); rfl | (with_reducible apply sF); rfl | (with_reducible apply sE); rfl); conv => arg 3; whnf)
    exact sat_ret ⟨rfl, rfl⟩
theorem esT_take (L : List En) : List.take L.length (List.drop 0 (esT L)) = esT L := by rw [List.drop_zero, List.take_of_length_le (by simp)]
theorem LogR.take {L : List En} {xs : List Tr} {cap : Option Nat} (h : LogR L xs cap) : List.take L.length (List.drop 0 xs) = esT L := by rw [List.drop_zero, h.t]
/-- What lasts: with the log's copy in a block of its own. -/
theorem k_durable (n : Nd) (cap : Option Nat) (xs : List Tr) (h : LogR n.log xs cap) (ho : EsOK n.log) (hl : n.log.length ≤ 1000) : ACalls PP GG F.raft_Node_Durable [pt 0] (n.H cap xs) fun r H' =>
    r = .agg [ti n.term, ti n.vote, .sl (n.H cap xs).length 0 [] 0 n.log.length (some n.log.length)] ∧ H' = n.H cap xs ++ [.row 40 (esT (owned n.log))] := by
  have ko := k_owned n.log ho (by omega)
  obtain ⟨me, sv, term, vote, role, lead, commit, left, log, votes, nxt, mat⟩ := n
  cases votes
  all_goals
    refine K.raft_Node_Durable.callsQ rfl ?_
    (conv => arg 3; whnf); repeat ((first | (with_reducible apply sT); rfl | (with_reducible apply sF); rfl | (with_reducible apply sE); rfl); conv => arg 3; whnf)
    rw [h.take]
    refine sat_call ko ?_
    rintro r H' ⟨rfl, rfl⟩
    (conv => arg 3; whnf); repeat ((first | (with_reducible apply sT); rfl | (with_reducible apply sF); rfl | (with_reducible apply sE); rfl); conv => arg 3; whnf)
    exact sat_ret ⟨rfl, rfl⟩
end Stk
