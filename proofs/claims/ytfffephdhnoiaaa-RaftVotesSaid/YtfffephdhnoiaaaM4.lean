/- What a leader sends, what a candidate asks; messages to all others. -/
import Derived.Test.YtfffephdhnoiaaaM1
namespace Stk
open Go
set_option maxRecDepth 100000
set_option linter.unusedSimpArgs false
set_option linter.unusedVariables false
set_option maxHeartbeats 4000000
/-- A message as it is made: its entries in a block of their own. -/
abbrev Mo.v (m : Mo) (b : Nat) : AV := .agg [.t (u8 m.kind), ti m.frm, ti m.to, ti m.term, ti m.index, ti m.prev, ti m.commit, ti 0, ti 0, ti 0, tb m.yes, ti 0, .t z32, .sl b 0 [] 0 m.es.length (some m.es.length), .t (.sl true 1 [])]
def Nd.nx (n : Nd) (to : Int) : Int := (n.nxt[to.toNat]?).getD 0
def Nd.appM (n : Nd) (to : Int) : Mo :=
  { kind := 3, frm := n.me, to, term := n.term, index := n.nx to - 1, prev := termAt n.log (n.nx to - 1), commit := n.commit, f := false,
    es := owned ((n.log.take (min (n.nx to - 1 + 8) n.log.length).toNat).drop (n.nx to - 1).toNat) }
theorem LogR.cut {L : List En} {xs : List Tr} {cap : Option Nat} (h : LogR L xs cap) {a b : Nat} (hb : b ≤ L.length) : List.take (b - a) (List.drop a xs) = esT ((L.take b).drop a) := by
  have : esT ((L.take b).drop a) = (xs.take b).drop a := by
    show List.map En.t _ = _
    rw [List.map_drop, List.map_take, show List.map En.t L = xs.take L.length from h.t.symm, List.take_take, Nat.min_eq_left hb]
  rw [this, List.drop_take]
theorem k_append (n : Nd) (cap : Option Nat) (xs : List Tr) (h : LogR n.log xs cap) (ho : EsOK n.log) (hl : n.log.length ≤ 1000) (to : Int) (ht : 0 ≤ to ∧ to < 6) (hn : n.nxt.length = 6) (hx : 1 ≤ n.nx to ∧ n.nx to ≤ n.log.length + 1) :
    ACalls PP GG F.raft_Node_append [pt 0, ti to] (n.H cap xs) fun r H' => r = (n.appM to).v (n.H cap xs).length ∧ H' = n.H cap xs ++ [.row 40 (esT (n.appM to).es)] := by
  have km := k_msg n cap xs 3 to
  have kt := k_term n cap xs h
  have kl := k_last n cap xs
  have eM : n.appM to = { kind := 3, frm := n.me, to, term := n.term, index := n.nx to - 1, prev := termAt n.log (n.nx to - 1), commit := n.commit, f := false, es := owned ((n.log.take (min (n.nx to - 1 + 8) n.log.length).toNat).drop (n.nx to - 1).toNat) } := rfl
  have hg : n.nxt[to.toNat]? = some (n.nx to) := by
    have : to.toNat < n.nxt.length := by omega
    rw [Nd.nx, List.getElem?_eq_getElem this]; rfl
  generalize n.nx to = x at *
  generalize n.appM to = M at *
  have hc := h.c
  have hxl := h.l
  obtain ⟨me, sv, term, vote, role, lead, commit, left, log, votes, nxt, mat⟩ := n
  dsimp only at h ho hl hn hx hg hc hxl km kt kl
  have hm : ∃ b : Nat, min (x - 1 + 8) (log.length : Int) = b ∧ (x - 1).toNat ≤ b ∧ b ≤ log.length := ⟨(min (x - 1 + 8) (log.length : Int)).toNat, by omega, by omega, by omega⟩
  obtain ⟨b, hb, hb1, hb2⟩ := hm
  simp only [hb, Int.toNat_natCast] at eM
  have kow := k_owned ((log.take b).drop (x - 1).toNat) (fun e he => ho e (List.mem_of_mem_take (List.mem_of_mem_drop he))) (by simp; omega)
  have eL : ((log.take b).drop (x - 1).toNat).length = b - (x - 1).toNat := by simp; omega
  cases votes
  all_goals
    refine K.raft_Node_append.callsQ rfl ?_
    (conv => arg 3; whnf); repeat ((first | (with_reducible apply sT); rfl | (with_reducible apply sF); rfl | (with_reducible apply sE); rfl); conv => arg 3; whnf)
    refine sat_call km ?_
    rintro r H' ⟨rfl, rfl⟩
    (conv => arg 3; whnf); repeat ((first | (with_reducible apply sT); rfl | (with_reducible apply sF); rfl | (with_reducible apply sE); rfl); conv => arg 3; whnf)
    refine sat_asrt (by simp; omega) ?_
    (conv => arg 3; whnf); repeat ((first | (with_reducible apply sT); rfl | (with_reducible apply sF); rfl | (with_reducible apply sE); rfl); conv => arg 3; whnf)
    refine sat_idx (i6 x) (by omega) (by rw [Int.toNat_natCast, List.getElem?_map, hg]; rfl) ?_
    (conv => arg 3; whnf); repeat ((first | (with_reducible apply sT); rfl | (with_reducible apply sF); rfl | (with_reducible apply sE); rfl); conv => arg 3; whnf)
    refine sat_rng (wrap64 (by omega) (by omega)) ?_
    (conv => arg 3; whnf); repeat ((first | (with_reducible apply sT); rfl | (with_reducible apply sF); rfl | (with_reducible apply sE); rfl); conv => arg 3; whnf)
    refine sat_call (kt (x - 1) (by omega) hl) ?_
    rintro r H' ⟨rfl, rfl⟩
    (conv => arg 3; whnf); repeat ((first | (with_reducible apply sT); rfl | (with_reducible apply sF); rfl | (with_reducible apply sE); rfl); conv => arg 3; whnf)
    refine sat_rng (wrap64 (by omega) (by omega)) ?_
    (conv => arg 3; whnf); repeat ((first | (with_reducible apply sT); rfl | (with_reducible apply sF); rfl | (with_reducible apply sE); rfl); conv => arg 3; whnf)
    refine sat_call kl ?_
    rintro r H' ⟨rfl, rfl⟩
    (conv => arg 3; whnf); repeat ((first | (with_reducible apply sT); rfl | (with_reducible apply sF); rfl | (with_reducible apply sE); rfl); conv => arg 3; whnf)
    refine sat_rng (wrap64 (by omega) (by omega)) ?_
    (conv => arg 3; whnf); repeat ((first | (with_reducible apply sT); rfl | (with_reducible apply sF); rfl | (with_reducible apply sE); rfl); conv => arg 3; whnf)
    rw [show min (x - 1 + 8) (log.length : Int) = (b : Int) from hb]
    refine sat_asrt (by simp; rcases hc with rfl | rfl <;> simp <;> omega) ?_
    (conv => arg 3; whnf); repeat ((first | (with_reducible apply sT); rfl | (with_reducible apply sF); rfl | (with_reducible apply sE); rfl); conv => arg 3; whnf)
    refine sat_asrt (by simp; omega) ?_
    (conv => arg 3; whnf); repeat ((first | (with_reducible apply sT); rfl | (with_reducible apply sF); rfl | (with_reducible apply sE); rfl); conv => arg 3; whnf)
    rw [show List.take ((b : Int).toNat - (x - 1).toNat) (List.drop (0 + (x - 1).toNat) xs) = esT ((log.take b).drop (x - 1).toNat) by rw [Int.toNat_natCast, Nat.zero_add]; exact h.cut hb2]
    refine sat_call kow ?_
    rintro r H' ⟨rfl, rfl⟩
    (conv => arg 3; whnf); repeat ((first | (with_reducible apply sT); rfl | (with_reducible apply sF); rfl | (with_reducible apply sE); rfl); conv => arg 3; whnf)
    subst eM
    refine sat_ret ⟨?_, rfl⟩
    dsimp only [Mo.v]
    rw [owned_len]
    rfl
/-- What a candidate asks. -/
def Nd.askM (n : Nd) (to : Int) : Mo := { kind := 1, frm := n.me, to, term := n.term, index := n.log.length, prev := termAt n.log n.log.length }
theorem k_ask (n : Nd) (cap : Option Nat) (xs : List Tr) (h : LogR n.log xs cap) (hl : n.log.length ≤ 1000) (to : Int) (ks : List Int) (hv : n.votes = some ks) :
    ACalls PP GG F.raft_Node_stand_1 [ti to, pt 0] (.var (pt 1) :: .var (nodeV n 2 cap) :: .row 40 xs :: [.map (kvT ks)]) fun r H' => r = .t (n.askM to).t ∧ H' = .var (pt 1) :: .var (nodeV n 2 cap) :: .row 40 xs :: [.map (kvT ks)] := by
  have km := k_msg n cap xs 1 to
  have kt := k_term n cap xs h
  have kl := k_last n cap xs
  obtain ⟨me, sv, term, vote, role, lead, commit, left, log, votes, nxt, mat⟩ := n
  dsimp only at h hl hv km kt kl
  subst hv
  refine K.raft_Node_stand_1.callsQ rfl ?_
  (conv => arg 3; whnf); repeat ((first | (with_reducible apply sT); rfl | (with_reducible apply sF); rfl | (with_reducible apply sE); rfl); conv => arg 3; whnf)
  refine sat_call km ?_
  rintro r H' ⟨rfl, rfl⟩
  (conv => arg 3; whnf); repeat ((first | (with_reducible apply sT); rfl | (with_reducible apply sF); rfl | (with_reducible apply sE); rfl); conv => arg 3; whnf)
  refine sat_call kl ?_
  rintro r H' ⟨rfl, rfl⟩
  (conv => arg 3; whnf); repeat ((first | (with_reducible apply sT); rfl | (with_reducible apply sF); rfl | (with_reducible apply sE); rfl); conv => arg 3; whnf)
  refine sat_call kl ?_
  rintro r H' ⟨rfl, rfl⟩
  (conv => arg 3; whnf); repeat ((first | (with_reducible apply sT); rfl | (with_reducible apply sF); rfl | (with_reducible apply sE); rfl); conv => arg 3; whnf)
  refine sat_call (kt log.length (by omega) hl) ?_
  rintro r H' ⟨rfl, rfl⟩
  (conv => arg 3; whnf); repeat ((first | (with_reducible apply sT); rfl | (with_reducible apply sF); rfl | (with_reducible apply sE); rfl); conv => arg 3; whnf)
  exact sat_ret ⟨rfl, rfl⟩
/-- What is made for each other server up to one. -/
def upTo (me : Int) (f : Int → Mo) : Nat → List Mo
  | 0 => []
  | k + 1 => if ((k + 1 : Nat) : Int) = me then upTo me f k else upTo me f k ++ [f ((k + 1 : Nat) : Int)]
theorem upTo_len (me : Int) (f : Int → Mo) : ∀ k, (upTo me f k).length ≤ k
  | 0 => by simp [upTo]
  | k + 1 => by
    have := upTo_len me f k
    unfold upTo
    split
    · omega
    · simp; omega
structure OtSt (sv : Int) where
  k : Nat
  hk : (k : Int) ≤ sv
theorem k_others_app (n : Nd) (cap : Option Nat) (xs : List Tr) (h : LogR n.log xs cap) (ho : EsOK n.log) (hl : n.log.length ≤ 1000) (hn : n.nxt.length = 6) (hsv : 1 ≤ n.sv ∧ n.sv ≤ 5) (hx : ∀ to, 1 ≤ to ∧ to ≤ n.sv → 1 ≤ n.nx to ∧ n.nx to ≤ n.log.length + 1) :
    ACalls PP GG F.raft_Node_others [pt 0, .fn 36 [pt 0] []] (n.H cap xs) fun r H' => r = .sl (n.D n.g cap xs).length 0 [] 0 (upTo n.me n.appM n.sv.toNat).length none ∧ H' = n.D n.g cap xs ++ [.row 46 ((upTo n.me n.appM n.sv.toNat).map Mo.t)] := by
  have ka := k_append n cap xs h ho hl
  have hf : ∀ to, (n.appM to).f = false := fun _ => rfl
  generalize n.appM = fM at *
  generalize n.nx = fN at *
  obtain ⟨me, sv, term, vote, role, lead, commit, left, log, votes, nxt, mat⟩ := n
  dsimp only at h ho hl hn hsv hx ka
  rcases votes with _ | ks
  · refine K.raft_Node_others.callsD rfl ?_
    (conv => arg 3; whnf); repeat ((first | (with_reducible apply sT); rfl | (with_reducible apply sF); rfl | (with_reducible apply sE); rfl); conv => arg 3; whnf)
    refine sat_loopOf mkX_ops (σ := OtSt sv) (fun x => [(0, pt 0), (1, .fn 36 [pt 0] []), (5, .sl (Nd.H ⟨me, sv, term, vote, role, lead, commit, left, log, none, nxt, mat⟩ cap xs).length 0 [] 0 (upTo me fM x.k).length none), (6, ti ((x.k + 1 : Nat) : Int))])
      (fun x => Nd.H ⟨me, sv, term, vote, role, lead, commit, left, log, none, nxt, mat⟩ cap xs ++ [.row 46 ((upTo me fM x.k).map Mo.t)]) (fun x => sv.toNat - x.k)
      (fun ex fr' H' => ex = .exit 0 ∧ fr' = [(5, .sl (Nd.H ⟨me, sv, term, vote, role, lead, commit, left, log, none, nxt, mat⟩ cap xs).length 0 [] 0 (upTo me fM sv.toNat).length none)] ∧ H' = Nd.H ⟨me, sv, term, vote, role, lead, commit, left, log, none, nxt, mat⟩ cap xs ++ [.row 46 ((upTo me fM sv.toNat).map Mo.t)]) ⟨0, by simp; omega⟩ ?_ ?_
    · rintro ⟨k, hk⟩
      dsimp only
      have hul := upTo_len me fM k
      (conv => arg 3; whnf); repeat ((first | (with_reducible apply sT); rfl | (with_reducible apply sF); rfl | (with_reducible apply sE); rfl); conv => arg 3; whnf)
      refine sat_br (fun h1 => ?_) (fun h1 => ?_)
      · have h1 : ((k + 1 : Nat) : Int) ≤ sv := of_decide_eq_true h1
        (conv => arg 3; whnf); repeat ((first | (with_reducible apply sT); rfl | (with_reducible apply sF); rfl | (with_reducible apply sE); rfl); conv => arg 3; whnf)
        refine sat_br (fun h2 => ?_) (fun h2 => ?_)
        · have h2 : ¬ ((k + 1 : Nat) : Int) = me := by simpa using h2
          have hu : upTo me fM (k + 1) = upTo me fM k ++ [fM ((k + 1 : Nat) : Int)] := by rw [upTo, if_neg h2]
          (conv => arg 3; whnf); repeat ((first | (with_reducible apply sT); rfl | (with_reducible apply sF); rfl | (with_reducible apply sE); rfl); conv => arg 3; whnf)
          refine sat_call (ka _ (by omega) hn (hx _ (by omega))) ?_
          have hf := hf ((k + 1 : Nat) : Int)
          generalize fM ((k + 1 : Nat) : Int) = M at *
          have hM : M.f = false := hf
          obtain ⟨mk, mf, mt, mte, mi, mp, mc, my, mff, mes⟩ := M
          dsimp only at hM
          subst hM
          have hul2 : (upTo me fM k ++ [Mo.mk mk mf mt mte mi mp mc my false mes]).length = (List.map Mo.t (upTo me fM k) ++ [(Mo.mk mk mf mt mte mi mp mc my false mes).t]).length := by simp
          rintro r H' ⟨rfl, rfl⟩
          (conv => arg 3; whnf); repeat ((first | (with_reducible apply sT); rfl | (with_reducible apply sF); rfl | (with_reducible apply sE); rfl); conv => arg 3; whnf)
          have hl2 : ((upTo me fM k).map Mo.t).length = (upTo me fM k).length := by simp
          refine sat_asrt (by simp) ?_
          (conv => arg 3; whnf); repeat ((first | (with_reducible apply sT); rfl | (with_reducible apply sF); rfl | (with_reducible apply sE); rfl); conv => arg 3; whnf)
          refine sat_asrt (by simp [roomy]; omega) ?_
          (conv => arg 3; whnf); repeat ((first | (with_reducible apply sT); rfl | (with_reducible apply sF); rfl | (with_reducible apply sE); rfl); conv => arg 3; whnf)
          rw [esT_take]
          refine sat_br (fun h3 => ?_) (fun h3 => ?_)
          · (conv => arg 3; whnf); repeat ((first | (with_reducible apply sT); rfl | (with_reducible apply sF); rfl | (with_reducible apply sE); rfl); conv => arg 3; whnf)
            refine sat_rng (wrap64 (by omega) (by omega)) ?_
            refine sat_ret ⟨⟨k + 1, by omega⟩, ?_, ?_, by show sv.toNat - (k + 1) < sv.toNat - k; omega⟩
            · show _ = [_, _, (5, AV.sl _ 0 [] 0 (upTo me fM (k + 1)).length none), _]
              rw [hu, hul2]; rfl
            · show _ = _ ++ [AO.row 46 ((upTo me fM (k + 1)).map Mo.t)]
              rw [hu, List.map_append]; rfl
          · simp at h3
        · have h2 : ((k + 1 : Nat) : Int) = me := by simpa using h2
          have hu : upTo me fM (k + 1) = upTo me fM k := by rw [upTo, if_pos h2]
          (conv => arg 3; whnf); repeat ((first | (with_reducible apply sT); rfl | (with_reducible apply sF); rfl | (with_reducible apply sE); rfl); conv => arg 3; whnf)
          refine sat_rng (wrap64 (by omega) (by omega)) ?_
          refine sat_ret ⟨⟨k + 1, by omega⟩, ?_, ?_, by show sv.toNat - (k + 1) < sv.toNat - k; omega⟩
          · show _ = [_, _, (5, AV.sl _ 0 [] 0 (upTo me fM (k + 1)).length none), _]
            rw [hu]; rfl
          · show _ = _ ++ [AO.row 46 ((upTo me fM (k + 1)).map Mo.t)]
            rw [hu]; rfl
      · have h1 : ¬ ((k + 1 : Nat) : Int) ≤ sv := of_decide_eq_false h1
        have hk' : k = sv.toNat := by omega
        subst hk'
        (conv => arg 3; whnf); repeat ((first | (with_reducible apply sT); rfl | (with_reducible apply sF); rfl | (with_reducible apply sE); rfl); conv => arg 3; whnf)
        exact sat_ret ⟨rfl, rfl, rfl⟩
    · rintro ex fr' H' ⟨rfl, rfl, rfl⟩
      (conv => arg 3; whnf); repeat ((first | (with_reducible apply sT); rfl | (with_reducible apply sF); rfl | (with_reducible apply sE); rfl); conv => arg 3; whnf)
      exact sat_ret ⟨rfl, rfl⟩
  · refine K.raft_Node_others.callsD rfl ?_
    (conv => arg 3; whnf); repeat ((first | (with_reducible apply sT); rfl | (with_reducible apply sF); rfl | (with_reducible apply sE); rfl); conv => arg 3; whnf)
    refine sat_loopOf mkX_ops (σ := OtSt sv) (fun x => [(0, pt 0), (1, .fn 36 [pt 0] []), (5, .sl (Nd.H ⟨me, sv, term, vote, role, lead, commit, left, log, (some ks), nxt, mat⟩ cap xs).length 0 [] 0 (upTo me fM x.k).length none), (6, ti ((x.k + 1 : Nat) : Int))])
      (fun x => Nd.H ⟨me, sv, term, vote, role, lead, commit, left, log, (some ks), nxt, mat⟩ cap xs ++ [.row 46 ((upTo me fM x.k).map Mo.t)]) (fun x => sv.toNat - x.k)
      (fun ex fr' H' => ex = .exit 0 ∧ fr' = [(5, .sl (Nd.H ⟨me, sv, term, vote, role, lead, commit, left, log, (some ks), nxt, mat⟩ cap xs).length 0 [] 0 (upTo me fM sv.toNat).length none)] ∧ H' = Nd.H ⟨me, sv, term, vote, role, lead, commit, left, log, (some ks), nxt, mat⟩ cap xs ++ [.row 46 ((upTo me fM sv.toNat).map Mo.t)]) ⟨0, by simp; omega⟩ ?_ ?_
    · rintro ⟨k, hk⟩
      dsimp only
      have hul := upTo_len me fM k
      (conv => arg 3; whnf); repeat ((first | (with_reducible apply sT); rfl | (with_reducible apply sF); rfl | (with_reducible apply sE); rfl); conv => arg 3; whnf)
      refine sat_br (fun h1 => ?_) (fun h1 => ?_)
      · have h1 : ((k + 1 : Nat) : Int) ≤ sv := of_decide_eq_true h1
        (conv => arg 3; whnf); repeat ((first | (with_reducible apply sT); rfl | (with_reducible apply sF); rfl | (with_reducible apply sE); rfl); conv => arg 3; whnf)
        refine sat_br (fun h2 => ?_) (fun h2 => ?_)
        · have h2 : ¬ ((k + 1 : Nat) : Int) = me := by simpa using h2
          have hu : upTo me fM (k + 1) = upTo me fM k ++ [fM ((k + 1 : Nat) : Int)] := by rw [upTo, if_neg h2]
          (conv => arg 3; whnf); repeat ((first | (with_reducible apply sT); rfl | (with_reducible apply sF); rfl | (with_reducible apply sE); rfl); conv => arg 3; whnf)
          refine sat_call (ka _ (by omega) hn (hx _ (by omega))) ?_
          have hf := hf ((k + 1 : Nat) : Int)
          generalize fM ((k + 1 : Nat) : Int) = M at *
          have hM : M.f = false := hf
          obtain ⟨mk, mf, mt, mte, mi, mp, mc, my, mff, mes⟩ := M
          dsimp only at hM
          subst hM
          have hul2 : (upTo me fM k ++ [Mo.mk mk mf mt mte mi mp mc my false mes]).length = (List.map Mo.t (upTo me fM k) ++ [(Mo.mk mk mf mt mte mi mp mc my false mes).t]).length := by simp
          rintro r H' ⟨rfl, rfl⟩
          (conv => arg 3; whnf); repeat ((first | (with_reducible apply sT); rfl | (with_reducible apply sF); rfl | (with_reducible apply sE); rfl); conv => arg 3; whnf)
          have hl2 : ((upTo me fM k).map Mo.t).length = (upTo me fM k).length := by simp
          refine sat_asrt (by simp) ?_
          (conv => arg 3; whnf); repeat ((first | (with_reducible apply sT); rfl | (with_reducible apply sF); rfl | (with_reducible apply sE); rfl); conv => arg 3; whnf)
          refine sat_asrt (by simp [roomy]; omega) ?_
          (conv => arg 3; whnf); repeat ((first | (with_reducible apply sT); rfl | (with_reducible apply sF); rfl | (with_reducible apply sE); rfl); conv => arg 3; whnf)
          rw [esT_take]
          refine sat_br (fun h3 => ?_) (fun h3 => ?_)
          · (conv => arg 3; whnf); repeat ((first | (with_reducible apply sT); rfl | (with_reducible apply sF); rfl | (with_reducible apply sE); rfl); conv => arg 3; whnf)
            refine sat_rng (wrap64 (by omega) (by omega)) ?_
            refine sat_ret ⟨⟨k + 1, by omega⟩, ?_, ?_, by show sv.toNat - (k + 1) < sv.toNat - k; omega⟩
            · show _ = [_, _, (5, AV.sl _ 0 [] 0 (upTo me fM (k + 1)).length none), _]
              rw [hu, hul2]; rfl
            · show _ = _ ++ [AO.row 46 ((upTo me fM (k + 1)).map Mo.t)]
              rw [hu, List.map_append]; rfl
          · simp at h3
        · have h2 : ((k + 1 : Nat) : Int) = me := by simpa using h2
          have hu : upTo me fM (k + 1) = upTo me fM k := by rw [upTo, if_pos h2]
          (conv => arg 3; whnf); repeat ((first | (with_reducible apply sT); rfl | (with_reducible apply sF); rfl | (with_reducible apply sE); rfl); conv => arg 3; whnf)
          refine sat_rng (wrap64 (by omega) (by omega)) ?_
          refine sat_ret ⟨⟨k + 1, by omega⟩, ?_, ?_, by show sv.toNat - (k + 1) < sv.toNat - k; omega⟩
          · show _ = [_, _, (5, AV.sl _ 0 [] 0 (upTo me fM (k + 1)).length none), _]
            rw [hu]; rfl
          · show _ = _ ++ [AO.row 46 ((upTo me fM (k + 1)).map Mo.t)]
            rw [hu]; rfl
      · have h1 : ¬ ((k + 1 : Nat) : Int) ≤ sv := of_decide_eq_false h1
        have hk' : k = sv.toNat := by omega
        subst hk'
        (conv => arg 3; whnf); repeat ((first | (with_reducible apply sT); rfl | (with_reducible apply sF); rfl | (with_reducible apply sE); rfl); conv => arg 3; whnf)
        exact sat_ret ⟨rfl, rfl, rfl⟩
    · rintro ex fr' H' ⟨rfl, rfl, rfl⟩
      (conv => arg 3; whnf); repeat ((first | (with_reducible apply sT); rfl | (with_reducible apply sF); rfl | (with_reducible apply sE); rfl); conv => arg 3; whnf)
      exact sat_ret ⟨rfl, rfl⟩
end Stk
