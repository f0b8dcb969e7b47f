/- Calls. -/
import Derived.Test.YtmigffdeghfbhaaEv20
namespace Go.Proofs.Ytmigffdeghfbhaa.Ev
open Go Go.RowKit
set_option linter.unusedSimpArgs false
set_option linter.unusedVariables false

variable {K : Ctx} {w0 : World} {M0 : Bd} {L L' : Lk} {st : St} {a : Act} {w : World} {o : Oper} {M M' : Nat → Nat → Prop}

theorem bind_ok {k : AV → List Ob → Cmd} {t : List Ac} {r : Rz} : ∀ {b : Br}, (b.bind k).ex st t = some r → ∃ res os, b.val = some (res, os) ∧ (k res os).ex st t = some r
  | .ret res os, h => ⟨res, os, rfl, h⟩
  | .fail, h => (ex_fail h).elim
  | .ite true x y, h => bind_ok (b := x) (by simpa only [Br.bind, Cmd.ex] using h)
  | .ite false x y, h => bind_ok (b := y) (by simpa only [Br.bind, Cmd.ex] using h)

theorem Goes.wp {P : Program} {fn : Nat} {args : Array Value} {Post : Value → World → Prop} {next : Act → World → Prop} {Q : Exit → Act → World → Prop} (h : Goes P fn args w Post)
    (hrun : (execOp a.eval o).run P w = (callFunc fn args).run P w) (hn : ∀ v w', Post v w' → next (a.put o.dst v) w') : o.wp P a w next Q := by
  show o.upon P a next Q ((execOp a.eval o).run P w)
  rw [hrun]
  rcases h with ⟨h, f, c, hf, hname, hb⟩ | ⟨v, w', hr, hp⟩
  · have : (callFunc fn args).run P w = .ok (.enter fn args) w := by
      have hname' : ¬ f.name = "runtime.NumGoroutine" := by simpa using hname
      simp [callFunc, hf, hname', hb, Sem.run_bind]
    rw [this, Oper.upon_enter]
    refine Calls.mono h fun e w' he => ?_
    cases e with
    | returned v => exact hn v w' he
    | panicked c => exact he.elim
    | outgrown => exact he.elim
  · rw [hr]; exact hn v w' hp

theorem anySh_spec : ∀ {l : List Ob}, anySh l = false → ∀ x ∈ l, x.hasSh = false
  | [], _, x, hx => by simp at hx
  | y :: l, h, x, hx => by
    simp only [anySh, Bool.or_eq_false_iff] at h
    rcases List.mem_cons.1 hx with rfl | hx
    · exact h.1
    · exact anySh_spec h.2 x hx

theorem disj_spec {os : List Nat} : ∀ {bs : List Nat}, disj os bs = true → ∀ i ∈ bs, i ∉ os
  | [], _, i, hi => by simp at hi
  | b :: bs, h, i, hi => by
    simp only [disj, Bool.and_eq_true, Bool.not_eq_true'] at h
    rcases List.mem_cons.1 hi with rfl | hi
    · intro hm; rw [hasN_spec.2 hm] at h; exact absurd h.1 (by simp)
    · exact disj_spec h.2 i hi

/-- The objects behind a call. -/
noncomputable def lkC (os : List Nat) (id n : Nat) (f g : Nat → Nat) (L1 Lc : Lk) : Lk :=
  ⟨fun i => open Classical in if h : ∃ q, q < n ∧ tgt os id q = i then (Lc (Classical.choose h)).map fun p => (p.1, p.2.up f g (Classical.choose h)) else L1 i, L1.F⟩

theorem callG_ok {C : Spec} (hK : K.Ok) (hC : ∀ fn, Sound K fn (C fn)) (R : Rl K w0 M0 L st a w) {id fn : Nat} {bs : List Nat} {args : List AV} {vs : List Value} (hargs : ∀ M', Out L bs M' → rels L w M' args vs)
    (hbs : ∀ i ∈ bs, ∃ e v z l, getO st.objs i = some (.arr e v z l)) {k : AV → Cmd} {t : List Ac} {r : Rz} (h : (callG C id fn bs args k).ex st t = some r) (hrun : (execOp a.eval o).run K.P w = (callFunc fn vs.toArray).run K.P w) :
    ∃ v objs t', (k v).ex ⟨st.env, objs⟩ t' = some r ∧ Does K w0 M0 o a w L objs v := by
  unfold callG at h
  obtain ⟨objs, t1, h1, hob⟩ := gat_ok _ _ _ h (by simp)
  clear h
  simp only at h1
  split at h1
  case h_2 => exact (ex_fail h1).elim
  rename_i hc
  simp only [Bool.and_eq_true] at hc
  obtain ⟨hnd0, hdj⟩ := hc
  have hnd := nodup_spec hnd0
  have hdis := disj_spec hdj
  obtain ⟨res, objs', hval, h2⟩ := bind_ok h1
  clear h1
  generalize hos : objs.map (·.1) = os at *
  split at h2
  case isFalse => exact (ex_fail h2).elim
  rename_i hlen
  generalize hf : (fun j => if j < os.length then os.getD j 0 else id + (j - os.length)) = f at *
  generalize hg : (fun j => (objs.map fun p => verOf p.2).getD j 0) = g at *
  have hft : ∀ q, f q = tgt os id q := fun q => by rw [← hf]; rfl
  -- what is laid back
  obtain ⟨objs1, t2, h3, hA, hB, hNew, hOld⟩ := back_ok _ _ _ _ h2 hlen hnd
  clear h2
  simp only [Nat.zero_add] at hA
  obtain ⟨bs', hbs', hbe', objs2, t3, h4, hC2⟩ : ∃ bs' : List Nat, (∀ i ∈ bs', i ∈ bs) ∧ ((res.hasSh || anySh objs') = true → bs' = bs) ∧ ∃ objs2 t3, (k (res.up f g)).ex ⟨st.env, objs2⟩ t3 = some r ∧ ∀ i, getO objs2 i = if i ∈ bs' then (getO objs1 i).map frzO else getO objs1 i := by
    split at h3
    · obtain ⟨o2, t3, e1, e2⟩ := freezes_ok bs h3; exact ⟨bs, fun _ h => h, fun _ => rfl, o2, t3, e1, e2⟩
    · rename_i hs; refine ⟨[], by simp, fun h => ?_, objs1, t2, h3, fun i => by simp⟩; rw [hs] at h; cases h
  clear h3
  refine ⟨_, objs2, t3, h4, ?_⟩
  clear h4
  -- the objects at hand
  have hL : ∀ i x, getO st.objs i = some x → ∃ l, L i = some (l, x) := R.shows
  have hLn : ∀ i, getO st.objs i = none → L i = none := fun i hi => L_none R hi
  have hbL : ∀ i ∈ bs, ∃ l e v z xs, L i = some (l, .arr e v z xs) := fun i hi => by
    obtain ⟨e, v, z, l, h1⟩ := hbs i hi
    obtain ⟨l', h2⟩ := hL _ _ h1
    exact ⟨l', e, v, z, l, h2⟩
  obtain ⟨f1, f2, f3⟩ := R.ro.freezeAll hK bs' fun i hi => hbL i (hbs' i hi)
  -- what goes in
  let Fc : Nat → Nat → Prop := fun b o => L.F b o ∨ ∃ i p, i ∉ os ∧ i ∉ bs ∧ L i = some p ∧ inR p b o
  obtain ⟨e1, e2, e3, e4⟩ := R.ro.enter (objs := objs) (fun o x hm => hL _ _ (hob _ _ hm)) (by rw [hos]; exact hnd) Fc
    (fun b o hb => hb.imp (fun h => h) fun ⟨i, p, h1, _, h2, h3⟩ => ⟨i, p, by rw [hos]; exact h1, h2, h3⟩) (Lc := lkL 0 (zipN 0 os) objs os L Fc) (by rw [hos])
  rw [hos] at e2 e3
  generalize hLc : lkL 0 (zipN 0 os) objs os L Fc = Lc at *
  have hLcF : Lc.F = Fc := by rw [← hLc]; rfl
  have hout : Out L bs (Mut Lc) := fun b o hm => ⟨e4 b o hm, fun i hi p hp hr => by
    rcases hm with hm | hm
    · rw [hLcF] at hm
      rcases hm with hm | ⟨j, q, j1, j2, j3, j4⟩
      · rw [R.ro.ff] at hm; exact R.ro.fo b o ⟨i, p, hp, hr⟩ hm
      · have := R.ro.sep i j p q b o hp j3 hr j4
        subst this; exact j2 hi
    · obtain ⟨j, q, j1, j2, j3⟩ := (e3 b o).1 hm
      have := R.ro.sep i j p q b o hp j2 hr j3
      subst this; exact hdis i hi j1⟩
  have hsees : Sees 0 (zipN 0 os) objs L Lc := by rw [← hLc]; exact lkL_sees
  have hin := mapRs_rel (m := 0) (fun i x hg => hL i x (hob _ _ (getO_mem hg))) hsees (Tr.refl w (Mut Lc)) args (hargs _ hout)
  have hgo := hC fn _ _ res objs' hval w Lc vs e1 e2 hin
  have hlenc : (mapOs 0 (zipN 0 os) objs 0 objs).length = os.length := by
    rw [← hos, List.length_map]
    apply Nat.le_antisymm
    · refine Nat.le_of_not_lt fun hlt => ?_
      have := mapOs_get 0 (zipN 0 (objs.map (·.1))) objs objs 0 objs.length
      rw [List.getElem?_eq_getElem hlt, List.getElem?_eq_none (Nat.le_refl _)] at this
      simp at this
    · refine Nat.le_of_not_lt fun hlt => ?_
      have := mapOs_get 0 (zipN 0 (objs.map (·.1))) objs objs 0 (mapOs 0 (zipN 0 (objs.map (·.1))) objs 0 objs).length
      rw [List.getElem?_eq_none (Nat.le_refl _), List.getElem?_eq_getElem hlt] at this
      simp at this
  -- places
  have hinj : ∀ q q', q < objs'.length → q' < objs'.length → tgt os id q = tgt os id q' → q = q' := by
    intro q q' hq hq' he
    by_cases h1 : q < os.length
    · by_cases h2 : q' < os.length
      · simp only [tgt, if_pos h1, if_pos h2] at he
        have e1 : os[q] = os[q'] := by simpa [List.getD, h1, h2] using he
        exact (List.getElem_inj hnd).1 e1
      · have := hNew q' (by omega) hq'
        rw [← he] at this
        obtain ⟨y, hy⟩ := hOld (tgt os id q) (by simp only [tgt, if_pos h1]; simp [List.getD, h1])
        rw [this] at hy; cases hy
    · by_cases h2 : q' < os.length
      · have := hNew q (by omega) hq
        rw [he] at this
        obtain ⟨y, hy⟩ := hOld (tgt os id q') (by simp only [tgt, if_pos h2]; simp [List.getD, h2])
        rw [this] at hy; cases hy
      · simp only [tgt, if_neg h1, if_neg h2] at he; omega
  have hosD : ∀ i ∈ os, ∃ q, q < os.length ∧ tgt os id q = i := fun i hi => by
    obtain ⟨q, hq, rfl⟩ := List.mem_iff_getElem.1 hi
    exact ⟨q, hq, by simp [tgt, hq, List.getD]⟩
  have hDbs : ∀ q, q < objs'.length → tgt os id q ∉ bs := fun q hq hb => by
    by_cases h1 : q < os.length
    · exact hdis _ hb (by simp only [tgt, if_pos h1]; simp [List.getD, h1])
    · obtain ⟨e, v, z, l, h2⟩ := hbs _ hb
      rw [hNew q (by omega) hq] at h2; cases h2
  intro next Q hnext
  refine hgo.wp hrun fun v w' ⟨Lc', g1, g2, g3, g4⟩ => ?_
  have hl1 : ∀ i, i ∉ bs' → lkF bs' L i = L i := fun i hi => by simp [lkF, hi]
  have hat : ∀ q, q < objs'.length → lkC os id objs'.length f g (lkF bs' L) Lc' (tgt os id q) = (Lc' q).map fun p => (p.1, p.2.up f g q) := fun q hq => by
    have hex : ∃ q', q' < objs'.length ∧ tgt os id q' = tgt os id q := ⟨q, hq, rfl⟩
    have hch := Classical.choose_spec hex
    have := hinj _ _ hch.1 hq hch.2
    simp only [lkC]
    rw [dif_pos hex, this]
  have hoff : ∀ i, (∀ q, q < objs'.length → tgt os id q ≠ i) → lkC os id objs'.length f g (lkF bs' L) Lc' i = lkF bs' L i := fun i hi => by
    simp only [lkC]
    rw [dif_neg]
    rintro ⟨q, h1, h2⟩
    exact hi q h1 h2
  have hlast : ∀ q p, Lc' q = some p → q < objs'.length := fun q p hp => by
    have := g2 q
    rw [hp] at this
    exact (List.getElem?_eq_some_iff.1 this).1
  have hU : Ups f g Lc' (lkC os id objs'.length f g (lkF bs' L) Lc') := fun q l x hq => by
    rw [hft, hat q (hlast q _ hq), hq]; rfl
  have hT : Turn (lkF bs' L) (lkC os id objs'.length f g (lkF bs' L) Lc') := by
    intro i l x hi
    by_cases hD : ∃ q, q < objs'.length ∧ tgt os id q = i
    · obtain ⟨q, hq, rfl⟩ := hD
      have hqb : tgt os id q ∉ bs' := fun hb => hDbs q hq (hbs' _ hb)
      rw [hl1 _ hqb] at hi
      have hqo : q < os.length := by
        refine Nat.lt_of_not_le fun hle => ?_
        rw [hLn _ (hNew q hle hq)] at hi; cases hi
      have hqo' : q < objs.length := by rw [← hos] at hqo; simpa using hqo
      have hobq : objs[q]? = some (objs[q]) := List.getElem?_eq_getElem hqo'
      have hfst : os[q]? = some (tgt os id q) := by simp [tgt, hqo, List.getD]
      have hfst' : objs[q].1 = tgt os id q := by
        rw [← hos] at hfst
        simp only [List.getElem?_map, hobq, Option.map_some, Option.some.injEq] at hfst
        rw [hfst, hos]
      obtain ⟨l0, hl0⟩ := hL _ _ (hob objs[q].1 objs[q].2 (List.mem_of_getElem? hobq))
      rw [hfst', hi] at hl0
      simp only [Option.some.injEq, Prod.mk.injEq] at hl0
      obtain ⟨rfl, hx⟩ := hl0
      have hlc := hsees _ _ (zipN_find (k := 0) hnd hfst) _ _ hi
      rw [Nat.zero_add] at hlc
      obtain ⟨l', x', k1, k2⟩ := g3 q (by rw [hlenc]; exact hqo) _ _ hlc
      refine ⟨l', x'.up f g q, by rw [hat q hq, k1]; rfl, ?_⟩
      have hgq : g q = verOf x := by rw [← hg]; simp [List.getD, hobq, hx]
      cases x with
      | var cs =>
        simp only [mapO] at k2
        obtain ⟨rfl, cs', rfl⟩ := k2
        exact ⟨rfl, _, rfl⟩
      | arr e v z xs =>
        simp only [mapO] at k2
        obtain ⟨cur', z', xs', rfl, k3⟩ := k2
        simp only [verOf] at hgq
        exact ⟨_, z', xs', rfl, by omega, fun hv => k3 (by omega)⟩
    · obtain ⟨l', x', k1, k2⟩ := Turn.refl (lkF bs' L) i l x hi
      exact ⟨l', x', by rw [hoff i fun q hq he => hD ⟨q, hq, he⟩]; exact k1, k2⟩
  have hmut : (res.hasSh || anySh objs') = true → ∀ b o, Mut (lkC os id objs'.length f g (lkF bs' L) Lc') b o → Mut Lc' b o := by
    intro hs b o hm
    have hbe : bs' = bs := hbe' hs
    rcases hm with hm | ⟨i, p, hp, hr⟩
    · refine .inl ?_
      have := g1.ff
      rw [this]
      show Lc.F b o
      rw [hLcF]
      exact .inl hm
    · by_cases hD : ∃ q, q < objs'.length ∧ tgt os id q = i
      · obtain ⟨q, hq, rfl⟩ := hD
        rw [hat q hq] at hp
        cases hcq : Lc' q with
        | none => rw [hcq] at hp; cases hp
        | some y =>
          rw [hcq] at hp; simp only [Option.map_some, Option.some.injEq] at hp
          subst hp
          exact .inr ⟨q, y, hcq, inR_up.1 hr⟩
      · rw [hoff i fun q hq he => hD ⟨q, hq, he⟩] at hp
        refine .inl ?_
        rw [g1.ff]
        show Lc.F b o
        rw [hLcF]
        have hio : i ∉ os := fun hm => by
          obtain ⟨q, h1, h2⟩ := hosD i hm
          exact hD ⟨q, by omega, h2⟩
        by_cases hib : i ∈ bs
        · exfalso
          obtain ⟨l, e, v, z, xs, hl⟩ := hbL i hib
          rw [hbe] at hp
          simp only [lkF, hib, if_true, hl, Option.map_some, Option.some.injEq] at hp
          subst hp
          obtain ⟨o0, q1, q2, q3⟩ := hr
          simp [frzO, ext] at q3; omega
        · obtain ⟨q, hq, hrq⟩ := lkF_inR hp hr
          exact .inr ⟨i, q, hio, hib, hq, hrq⟩
  have hdy : ∀ x : Ob, x ∈ objs' → x.hasSh = false ∨ Tr w' (Mut Lc') w' (Mut (lkC os id objs'.length f g (lkF bs' L) Lc')) := fun x hx => by
    by_cases hs : (res.hasSh || anySh objs') = true
    · exact .inr (Tr.sub (hmut hs))
    · simp only [Bool.not_eq_true, Bool.or_eq_false_iff] at hs
      exact .inl (anySh_spec hs.2 x hx)
  have hdr : res.hasSh = false ∨ Tr w' (Mut Lc') w' (Mut (lkC os id objs'.length f g (lkF bs' L) Lc')) := by
    by_cases hs : (res.hasSh || anySh objs') = true
    · exact .inr (Tr.sub (hmut hs))
    · simp only [Bool.not_eq_true, Bool.or_eq_false_iff] at hs
      exact .inl hs.1
  obtain ⟨r1, r2⟩ := f1.chg hK (L' := lkC os id objs'.length f g (lkF bs' L) Lc') (w' := w') (N := MutO Lc) (fun i => ∃ q, q < objs'.length ∧ tgt os id q = i) g1.fr
    (fun b o hm => by
      obtain ⟨i, p, h1, h2, h3⟩ := (e3 b o).1 hm
      exact ⟨i, p, by rw [hl1 i fun hb => hdis i (hbs' i hb) h1]; exact h2, h3⟩) rfl hT
    (fun i p hp hD => by
      rw [hoff i fun q hq he => hD ⟨q, hq, he⟩] at hp
      refine ⟨hp, fun b o hr hm => ?_⟩
      obtain ⟨j, q, h1, h2, h3⟩ := (e3 b o).1 hm
      obtain ⟨p', hp', hr'⟩ := lkF_inR hp hr
      have := R.ro.sep i j p' q b o hp' h2 hr' h3
      subst this
      obtain ⟨q', h4, h5⟩ := hosD _ h1
      exact hD ⟨q', by omega, h5⟩)
    (fun i p hp hD => by
      obtain ⟨q, hq, rfl⟩ := hD
      rw [hat q hq] at hp
      cases hcq : Lc' q with
      | none => rw [hcq] at hp; cases hp
      | some y =>
        rw [hcq] at hp; simp only [Option.map_some, Option.some.injEq] at hp
        subst hp
        obtain ⟨l, x⟩ := y
        have hx : x ∈ objs' := by
          have := g2 q
          rw [hcq] at this
          exact List.mem_of_getElem? this
        refine ⟨fun _ => okO_up hU (hdy x hx) (g1.ok q _ hcq), fun b o hr => ?_⟩
        by_cases hb : b < w.heap.size
        · exact .inl (g1.own b o ⟨q, _, hcq, inR_up.1 hr⟩ hb)
        · exact .inr (by omega))
    (fun i j p p' b o hp hp' hD hD' hr hr' => by
      obtain ⟨q, hq, rfl⟩ := hD
      obtain ⟨q', hq', rfl⟩ := hD'
      rw [hat q hq] at hp
      rw [hat q' hq'] at hp'
      cases hcq : Lc' q with
      | none => rw [hcq] at hp; cases hp
      | some y =>
        cases hcq' : Lc' q' with
        | none => rw [hcq'] at hp'; cases hp'
        | some y' =>
          rw [hcq] at hp; simp only [Option.map_some, Option.some.injEq] at hp
          rw [hcq'] at hp'; simp only [Option.map_some, Option.some.injEq] at hp'
          subst hp; subst hp'
          rw [g1.sep q q' y y' b o hcq hcq' (inR_up.1 hr) (inR_up.1 hr')])
  refine hnext (lkC os id objs'.length f g (lkF bs' L) Lc') w' v r1 (fun i => ?_) (f3.trans hT) (f2.trans r2) (up_rel hU res hdr g4)
  by_cases hD : ∃ q, q < objs'.length ∧ tgt os id q = i
  · obtain ⟨q, hq, rfl⟩ := hD
    rw [hC2, if_neg (fun hb => hDbs q hq (hbs' _ hb)), hA q _ (List.getElem?_eq_getElem hq), hat q hq]
    have := g2 q
    rw [List.getElem?_eq_getElem hq] at this
    cases hcq : Lc' q with
    | none => rw [hcq] at this; cases this
    | some y =>
      rw [hcq] at this
      simp only [Option.map_some, Option.some.injEq] at this ⊢
      rw [this]
  · have hD' : ∀ q, q < objs'.length → tgt os id q ≠ i := fun q hq he => hD ⟨q, hq, he⟩
    rw [hoff i hD', hC2, hB i hD']
    have hob' := R.ob i
    rw [hob']
    simp only [lkF]
    by_cases hb : i ∈ bs'
    · simp only [hb, if_true, Option.map_map]
      cases L i <;> rfl
    · simp only [hb, if_false]

theorem ok_call {C : Spec} {O : Opt} (hK : K.Ok) (hC : ∀ fn, Sound K fn (C fn)) {c : Call} {f : Operand} (h : o.op = .call c) (hf : c.callee = .value f) : OpOk K C O o := by
  intro w0 M0 L st a w d k t r R he
  rw [h] at he
  simp only [op1, hf] at he
  obtain ⟨v, t1, he1, hv⟩ := opd_ok R he
  cases v <;> try exact (ex_fail he1).elim
  rename_i fn cap
  obtain ⟨vs, t2, he2, hvs⟩ := opds_ok R he1
  simp only [rel] at hv
  obtain ⟨cs, hv1, hv2⟩ := hv
  have hall := rels_append hvs hv2
  have hrun : (execOp a.eval o).run K.P w = (callFunc fn (c.args.toList.map a.eval ++ cs.toList).toArray).run K.P w := by
    have e1 : c.args.map a.eval ++ cs = (c.args.toList.map a.eval ++ cs.toList).toArray := by apply Array.ext'; simp
    simp [execOp, h, resolve, hf, hv1, Deferred.ofValue, invoke, e1]
  unfold callC at he2
  split at he2
  · exact callG_ok hK hC R (fun M' ho => rels_tr (Turn.refl L) ho.tr _ hall) (by simp) he2 hrun
  · obtain ⟨xs', bs', t', e1, e2, e3, e4⟩ := lendAll_ok R _ hall he2
    exact callG_ok hK hC R e4 (fun i hi => (e3 i hi).elim (by simp) id) e1 hrun

end Go.Proofs.Ytmigffdeghfbhaa.Ev
