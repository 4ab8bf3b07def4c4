/- Copies of messages, arguments of the law of votes, maps of votes. -/
import Derived.Test.YtfffephdhnoiaaaM13
namespace Stk
open Go
set_option maxRecDepth 100000
set_option linter.unusedSimpArgs false
set_option linter.unusedVariables false
set_option maxHeartbeats 16000000
theorem owned_take (L : List En) : List.take L.length (List.drop 0 (esT (owned L))) = esT (owned L) := by rw [List.drop_zero, List.take_of_length_le (by simp [owned])]
structure CpSt (L : List En) where
  i : Nat
  hi : i ≤ L.length
theorem r_copied (L : List En) (hL : EsOK L) (hl : L.length * 112 ≤ 2 ^ 47) : ACalls PP GG F.ref24_Copied [.bz 40 (esT L)] [] fun r H' => r = .sl 0 0 [] 0 L.length none ∧ H' = [.row 40 (esT (owned L))] := by
  refine K.ref24_Copied.callsC rfl ?_
  (conv => arg 3; whnf); repeat ((first | (with_reducible apply sT); rfl | (with_reducible apply sF); rfl | (with_reducible apply sE); rfl); conv => arg 3; whnf)
  have el : (esT L).length = L.length := by simp
  refine sat_loopOf mkX_ops (σ := CpSt L) (fun x => [(0, .bz 40 (esT L)), (3, .sl 0 0 [] 0 (owned (L.take x.i)).length none), (4, ti (x.i : Int))]) (fun x => [.row 40 (esT (owned (L.take x.i)))]) (fun x => L.length - x.i)
    (fun ex fr' H' => ex = .exit 0 ∧ fr' = [(3, .sl 0 0 [] 0 L.length none)] ∧ H' = [.row 40 (esT (owned L))]) ⟨0, Nat.zero_le _⟩ ?_ ?_
  · rintro ⟨i, hi⟩
    dsimp only
    (conv => arg 3; whnf); repeat ((first | (with_reducible apply sT); rfl | (with_reducible apply sF); rfl | (with_reducible apply sE); rfl); conv => arg 3; whnf)
    rw [el]
    refine sat_br (fun h => ?_) (fun h => ?_)
    · have h : i < L.length := by have := of_decide_eq_true h; omega
      have hu : L[i]? = some L[i] := List.getElem?_eq_getElem h
      generalize L[i] = u at hu
      have hu1 : u.cmd.data.length ≤ 2 ^ 47 := hL _ (List.mem_of_getElem? hu)
      have hst : owned (L.take (i + 1)) = owned (L.take i) ++ [u.own] := by
        rw [List.take_add_one, hu]; simp [owned]
      have hln : (owned (L.take i)).length = i := by simp [owned]; omega
      (conv => arg 3; whnf); repeat ((first | (with_reducible apply sT); rfl | (with_reducible apply sF); rfl | (with_reducible apply sE); rfl); conv => arg 3; whnf)
      refine sat_idx u.t (by omega) (by rw [Int.toNat_natCast, List.getElem?_map, hu]; rfl) ?_
      (conv => arg 3; whnf); repeat ((first | (with_reducible apply sT); rfl | (with_reducible apply sF); rfl | (with_reducible apply sE); rfl); conv => arg 3; whnf)
      refine sat_idx u.t (by omega) (by rw [Int.toNat_natCast, List.getElem?_map, hu]; rfl) ?_
      (conv => arg 3; whnf); repeat ((first | (with_reducible apply sT); rfl | (with_reducible apply sF); rfl | (with_reducible apply sE); rfl); conv => arg 3; whnf)
      refine sat_asrt (by decide) ?_
      (conv => arg 3; whnf); repeat ((first | (with_reducible apply sT); rfl | (with_reducible apply sF); rfl | (with_reducible apply sE); rfl); conv => arg 3; whnf)
      refine sat_asrt (by simp [roomy]; omega) ?_
      (conv => arg 3; whnf); repeat ((first | (with_reducible apply sT); rfl | (with_reducible apply sF); rfl | (with_reducible apply sE); rfl); conv => arg 3; whnf)
      have hfz : List.take ([] ++ u.cmd.data : List Tr).length (List.drop 0 ([] ++ u.cmd.data)) = u.cmd.data := by simp
      refine sat_asrt (by simp) ?_
      (conv => arg 3; whnf); repeat ((first | (with_reducible apply sT); rfl | (with_reducible apply sF); rfl | (with_reducible apply sE); rfl); conv => arg 3; whnf)
      refine sat_asrt (by simp [roomy]; omega) ?_
      (conv => arg 3; whnf); repeat ((first | (with_reducible apply sT); rfl | (with_reducible apply sF); rfl | (with_reducible apply sE); rfl); conv => arg 3; whnf)
      rw [hfz]
      refine sat_br (fun h2 => ?_) (fun h2 => ?_)
      · (conv => arg 3; whnf); repeat ((first | (with_reducible apply sT); rfl | (with_reducible apply sF); rfl | (with_reducible apply sE); rfl); conv => arg 3; whnf)
        refine sat_rng (wrap64 (by omega) (by omega)) ?_
        have e3 : ∀ w : Tr, (esT (owned (L.take i)) ++ [w]).length = (owned (L.take (i + 1))).length := fun w => by rw [hst]; simp
        refine sat_ret ⟨⟨i + 1, by omega⟩, ?_, ?_, by show L.length - (i + 1) < L.length - i; omega⟩
        · show _ = [_, (3, AV.sl 0 0 [] 0 (owned (L.take (i + 1))).length none), _]
          rw [← e3]; rfl
        · show _ = [AO.row 40 (esT (owned (L.take (i + 1))))]
          rw [hst, show esT (owned (L.take i) ++ [u.own]) = esT (owned (L.take i)) ++ [u.own.t] by simp]; rfl
      · simp at h2
    · have h : i = L.length := by have := of_decide_eq_false h; omega
      subst h
      (conv => arg 3; whnf); repeat ((first | (with_reducible apply sT); rfl | (with_reducible apply sF); rfl | (with_reducible apply sE); rfl); conv => arg 3; whnf)
      refine sat_ret ⟨rfl, ?_, ?_⟩
      · show [(3, AV.sl 0 0 [] 0 (owned (L.take L.length)).length none)] = _
        rw [List.take_length, owned_len]
      · show [AO.row 40 (esT (owned (L.take L.length)))] = _
        rw [List.take_length]
  · rintro ex fr' H' ⟨rfl, rfl, rfl⟩
    (conv => arg 3; whnf); repeat ((first | (with_reducible apply sT); rfl | (with_reducible apply sF); rfl | (with_reducible apply sE); rfl); conv => arg 3; whnf)
    exact sat_ret ⟨rfl, rfl⟩
theorem k_copied (m : Mi) (hes : EsOK m.es) (hl : m.es.length * 112 ≤ 2 ^ 47) : ACalls PP GG F.law24_copied [m.l] [] fun r H' =>
    r = .agg [.t (u8 m.kind), ti m.frm, ti m.to, ti m.term, ti m.index, ti m.prev, ti m.commit, ti m.epoch, ti m.client, ti m.seq, tb m.yes, ti m.code, .t (.arr 32 m.hash), .sl 0 0 [] 0 m.es.length none, .bz 1 m.data] ∧ H' = [.row 40 (esT (owned m.es))] := by
  refine K.law24_copied.callsC rfl ?_
  (conv => arg 3; whnf); repeat ((first | (with_reducible apply sT); rfl | (with_reducible apply sF); rfl | (with_reducible apply sE); rfl); conv => arg 3; whnf)
  refine sat_call (r_copied m.es hes hl) ?_
  rintro r H' ⟨rfl, rfl⟩
  (conv => arg 3; whnf); repeat ((first | (with_reducible apply sT); rfl | (with_reducible apply sF); rfl | (with_reducible apply sE); rfl); conv => arg 3; whnf)
  exact sat_ret ⟨rfl, rfl⟩
/-! ### Maps of votes -/
abbrev VT (vm : List (Int × Int)) : List (Tr × Tr) := vm.map fun p => (i6 p.1, i6 p.2)
def vput (t v : Int) : List (Int × Int) → List (Int × Int)
  | [] => [(t, v)]
  | (a, u) :: r => if t = a then (t, v) :: r else (a, u) :: vput t v r
theorem mput_vt (t v : Int) : ∀ vm, mput (i6 t) (i6 v) (VT vm) = VT (vput t v vm)
  | [] => rfl
  | (a, u) :: r => by
    have ih := mput_vt t v r
    show mput (i6 t) (i6 v) ((i6 a, i6 u) :: VT r) = _
    unfold mput vput
    by_cases h : t = a
    · rw [if_pos (by simp [Tr.eqb, h]), if_pos h]; rfl
    · rw [if_neg (by simp [Tr.eqb, h]), if_neg h, ih]; rfl
theorem vput_mem {t v : Int} {p : Int × Int} : ∀ {vm}, p ∈ vput t v vm → p ∈ vm ∨ p = (t, v)
  | [], h => by simp [vput] at h; exact .inr h
  | (a, u) :: r, h => by
    unfold vput at h
    split at h
    · rcases List.mem_cons.1 h with h | h
      · exact .inr h
      · exact .inl (by simp [h])
    · rcases List.mem_cons.1 h with h | h
      · exact .inl (by simp [h])
      · rcases vput_mem h with h | h
        · exact .inl (by simp [h])
        · exact .inr h
theorem mfind_vt (t : Int) : ∀ vm, mfind (i6 t) (VT vm) = none ∨ ∃ v, mfind (i6 t) (VT vm) = some (i6 v) ∧ (t, v) ∈ vm
  | [] => .inl rfl
  | (a, u) :: r => by
    show mfind (i6 t) ((i6 a, i6 u) :: VT r) = _ ∨ ∃ v, mfind (i6 t) ((i6 a, i6 u) :: VT r) = _ ∧ _
    unfold mfind
    by_cases h : t = a
    · subst h
      rw [if_pos (by simp [Tr.eqb])]
      exact .inr ⟨u, rfl, by simp⟩
    · rw [if_neg (by simp [Tr.eqb, h])]
      rcases mfind_vt t r with h1 | ⟨v, h1, h2⟩
      · exact .inl h1
      · exact .inr ⟨v, h1, by simp [h2]⟩
theorem vt_fits (t : Int) (vm : List (Int × Int)) : ((i6 t).fits (.int .i64) && (VT vm).all (fun p => p.1.fits (.int .i64))) = true := by
  simp [VT, Tr.fits, kindEq]
/-- What the map of votes knows of a server. -/
def VI (vm : List (Int × Int)) (n : Nd) : Prop := ∀ p ∈ vm, p.1 ≤ n.term ∧ (p.1 = n.term → n.vote = p.2) ∧ p.2 ≠ 0
theorem VI.step {vm : List (Int × Int)} {n n' : Nd} {ms : List Mo} (h : VI vm n) (e : Ev n n' ms) : VI vm n' := fun p hp => by
  obtain ⟨h1, h2, h3⟩ := h p hp
  have := e.term
  refine ⟨by omega, fun ht => ?_, h3⟩
  have hv := h2 (by omega)
  rw [e.vote (by omega) (by rw [hv]; exact h3), hv]
theorem VI.put {vm : List (Int × Int)} {n : Nd} (h : VI vm n) (hv : n.vote > 0) : VI (vput n.term n.vote vm) n := fun p hp => by
  rcases vput_mem hp with hp | rfl
  · exact h p hp
  · exact ⟨Int.le_refl _, fun _ => rfl, by dsimp only; omega⟩
/-! ### Arguments -/
abbrev CmD : TyD := .st [.int .u8, .int .i64, .int .i64, .int .i64, .int .i64, .bool, .arr 32 (.int .u8), .sl 1 (.int .u8), .pad 14]
abbrev EnD : TyD := .st [.int .i64, CmD]
abbrev MsD : TyD := .st [.int .u8, .int .i64, .int .i64, .int .i64, .int .i64, .int .i64, .int .i64, .int .i64, .int .i64, .int .i64, .bool, .int .i64, .arr 32 (.int .u8), .sl 40 EnD, .sl 1 (.int .u8), .pad 14]
abbrev StD : TyD := .st [.int .i64, .int .i64, .int .i64, .int .i64, .sl 40 EnD]
abbrev DoD : TyD := .st [.int .i64, .int .i64, MsD, CmD, .bool, .pad 7]
theorem cm_of {x : Tr} (h : TrD CmD x) : ∃ c : Cm, x = c.t ∧ c.data.length ≤ 2 ^ 47 := by
  obtain ⟨_, rfl, y0, _, rfl, ⟨k, rfl, w0⟩, y1, _, rfl, ⟨a, rfl, w1⟩, y2, _, rfl, ⟨b, rfl, w2⟩, y3, _, rfl, ⟨d, rfl, w3⟩, y4, _, rfl, ⟨e, rfl, w4⟩, y5, _, rfl, ⟨m, rfl⟩, y6, _, rfl, ⟨hs, rfl, hl, hh⟩, y7, _, rfl, ⟨f, L, rfl, _, h1, h2⟩, rfl⟩ := h
  have h1' : L.length * 1 ≤ 140737488351232 := h1
  exact ⟨⟨k, a, b, d, e, m, hs, f, L⟩, rfl, by show L.length ≤ _; omega⟩
theorem en_of {x : Tr} (h : TrD EnD x) : ∃ e : En, x = e.t ∧ e.OK := by
  obtain ⟨_, rfl, y0, _, rfl, ⟨k, rfl, w0⟩, y1, _, rfl, h1, rfl⟩ := h
  obtain ⟨c, rfl, hc⟩ := cm_of h1
  exact ⟨⟨k, c⟩, rfl, hc⟩
theorem es_of : ∀ {xs : List Tr}, (∀ y ∈ xs, TrD EnD y) → ∃ es : List En, xs = esT es ∧ EsOK es
  | [], _ => ⟨[], rfl, fun e he => by cases he⟩
  | x :: xs, h => by
    obtain ⟨es, rfl, h2⟩ := es_of (xs := xs) fun y hy => h y (by simp [hy])
    obtain ⟨e, rfl, he⟩ := en_of (h x (by simp))
    exact ⟨e :: es, rfl, fun y hy => (List.mem_cons.1 hy).elim (fun h => h ▸ he) (h2 y)⟩
/-- A message as an argument. -/
abbrev Mi.t (m : Mi) (f g : Bool) : Tr := .agg [u8 m.kind, i6 m.frm, i6 m.to, i6 m.term, i6 m.index, i6 m.prev, i6 m.commit, i6 m.epoch, i6 m.client, i6 m.seq, .bool m.yes, i6 m.code, .arr 32 m.hash, .sl f 40 (esT m.es), .sl g 1 m.data]
theorem ms_of {x : Tr} (h : TrD MsD x) : ∃ (m : Mi) (f g : Bool), x = m.t f g ∧ EsOK m.es ∧ m.es.length * 112 ≤ 2 ^ 47 ∧ (0 ≤ m.kind ∧ m.kind ≤ 255) := by
  obtain ⟨_, rfl, y0, _, rfl, ⟨k, rfl, w0⟩, y1, _, rfl, ⟨n0, rfl, v0⟩, y2, _, rfl, ⟨n1, rfl, v1⟩, y3, _, rfl, ⟨n2, rfl, v2⟩, y4, _, rfl, ⟨n3, rfl, v3⟩, y5, _, rfl, ⟨n4, rfl, v4⟩, y6, _, rfl, ⟨n5, rfl, v5⟩, y7, _, rfl, ⟨n6, rfl, v6⟩, y8, _, rfl, ⟨n7, rfl, v7⟩, y9, _, rfl, ⟨n8, rfl, v8⟩, y10, _, rfl, ⟨ys, rfl⟩, y11, _, rfl, ⟨code, rfl, wc⟩, y12, _, rfl, ⟨hs, rfl, hl, hh⟩, y13, _, rfl, ⟨f, E, rfl, _, h1, h2⟩, y14, _, rfl, ⟨g, L, rfl, _, h3, h4⟩, rfl⟩ := h
  obtain ⟨es, rfl, he⟩ := es_of h2
  have := wf_u8 w0
  have h1' : (esT es).length * (TyD.bytes EnD) ≤ 140737488351232 := h1
  have e1 : (esT es).length = es.length := by simp
  rw [e1, show TyD.bytes EnD = 112 from by decide] at h1'
  refine ⟨⟨k, n0, n1, n2, n3, n4, n5, n6, n7, n8, ys, code, hs, es, L⟩, f, g, rfl, he, by show es.length * 112 ≤ _; omega, by show 0 ≤ k ∧ k ≤ 255; omega⟩
structure RvSt (me sv : Int) (X : List Tr) where
  i : Nat
  n : Nd
  cap : Option Nat
  xs : List Tr
  vm : List (Int × Int)
  hi : i ≤ X.length
  h : LogR n.log xs cap
  inv : n.Inv
  left : 1 ≤ n.left
  vi : VI vm n
  eme : n.me = me
  esv : n.sv = sv
abbrev RH (S : Tr) (vm : List (Int × Int)) (n : Nd) (cap : Option Nat) (xs : List Tr) : Hp := .var (.t S) :: .map (VT vm) :: .var (nodeV n 3 cap) :: .row 40 xs :: voteO n.votes
structure OuSt (ms : List Mo) where
  j : Nat
  hj : j ≤ ms.length
theorem k_TickE (n : Nd) (cap : Option Nat) (xs : List Tr) (h : LogR n.log xs cap) (hi : n.Inv) (hl : 1 ≤ n.left) (draw : Int) (hd : I64 draw) :
    ACalls PP GG F.raft_Node_Tick [pt 0, ti draw] (n.H cap xs) fun r H' => ∃ N' ms, Ev n N' ms ∧ ms.length ≤ 5 ∧ Left2 n.g N' ms r H' :=
  (k_tick n cap xs h hi.li (by have := hi.left; constructor <;> omega) (fun hr => fun to hto => (hi.lead hr to hto).1) draw hd).mono fun r H' hh => by
    obtain ⟨cap', xs', h1, h2, h3⟩ := hh
    exact ⟨_, _, ev_tick hi hl draw, few_tick hi draw, cap', xs', none, h1, h2, h3⟩
theorem k_TakeE (n : Nd) (cap : Option Nat) (xs : List Tr) (h : LogR n.log xs cap) (hi : n.Inv) (hl : 1 ≤ n.left) (m : Mi) (hk : 0 ≤ m.kind ∧ m.kind ≤ 255) (hes : EsOK m.es) (draw : Int) (hd : I64 draw) :
    ACalls PP GG F.raft_Node_Take [pt 0, m.l, ti draw] (n.H cap xs) fun r H' => ∃ N' ms, Ev n N' ms ∧ ms.length ≤ 5 ∧ Left2 n.g N' ms r H' :=
  (k_Take n cap xs h hi m hk hes draw hd).mono fun r H' hh => ⟨_, _, ev_take hi hl m hes draw, few_take hi m _, hh⟩
theorem k_copiedE (m : Mi) (hes : EsOK m.es) (hl : m.es.length * 112 ≤ 2 ^ 47) : ACalls PP GG F.law24_copied [m.l] [] fun r H' => ∃ a b : Int,
    r = .agg [.t (u8 m.kind), ti a, ti b, ti m.term, ti m.index, ti m.prev, ti m.commit, ti m.epoch, ti m.client, ti m.seq, tb m.yes, ti m.code, .t (.arr 32 m.hash), .sl 0 0 [] 0 m.es.length none, .bz 1 m.data] ∧ H' = [.row 40 (esT (owned m.es))] :=
  (k_copied m hes hl).mono fun r H' hh => ⟨_, _, hh.1, hh.2⟩
theorem sat_key2 {X : Cx} {Q : Ex → Fr → Hp → Prop} {t : T} {G : Int → Int → T} (key : ∀ a b, sat X Q (G a b)) (main : (∀ a b, sat X Q (G a b)) → sat X Q t) : sat X Q t := main key
theorem sat_keyP {α : Type} {X : Cx} {Q : Ex → Fr → Hp → Prop} {t : T} {P : α → Prop} {G : α → T} (key : ∀ a, P a → sat X Q (G a)) (main : (∀ a, P a → sat X Q (G a)) → sat X Q t) : sat X Q t := main key
def loopsOf : IC → List IC
  | .seq a b => loopsOf a ++ loopsOf b
  | .cond _ a b => loopsOf a ++ loopsOf b
  | .block _ a => loopsOf a
  | .loop _ _ _ a => a :: loopsOf a
  | _ => []
/-- What the law's loop does in a round. -/
def rvBody : IC := (loopsOf I.law24_RaftVotes.body).headD .skip
abbrev rvS (me sv term0 vote0 : Int) (f0 : Bool) (L0 : List En) : Tr := .agg [i6 me, i6 sv, i6 term0, i6 vote0, .sl f0 40 (esT L0)]
abbrev rvFr (me sv : Int) (g0 : Bool) (X : List Tr) (x : RvSt me sv X) : Fr := [(2, pt 0), (7, .mp 1), (5, pt 2), (8, ti x.n.term), (9, ti x.n.commit), (53, .t (.sl g0 88 X)), (54, ti (X.length : Int)), (55, ti (x.i : Int))]
abbrev rvHs (me sv term0 vote0 : Int) (f0 : Bool) (L0 : List En) (X : List Tr) (x : RvSt me sv X) : Hp := RH (rvS me sv term0 vote0 f0 L0) x.vm x.n x.cap x.xs
def rvQ (me sv term0 vote0 : Int) (f0 : Bool) (L0 : List En) (X : List Tr) (ex : Ex) (fr' : Fr) (H' : Hp) : Prop :=
  ex = .exit 0 ∧ fr' = [(4, .undef)] ∧ ∃ x : RvSt me sv X, H' = rvHs me sv term0 vote0 f0 L0 X x ∨ ∃ y : Tr, H' = rvHs me sv term0 vote0 f0 L0 X x ++ [.var (.t y)]
end Stk
