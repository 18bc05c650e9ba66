/-
  Parts of the proof, merged: what the functions do, and plain laws.
-/
import Derived.Test.YtjifdalflepcoacHCksP1
import Derived.Test.YtjifdalflepcoacProg
import Derived.Test.YtjifdalflepcoacHCksP0
namespace Go.Proofs.Ytjifdalflepcoac
set_option linter.unusedVariables false
set_option linter.unusedSimpArgs false

section
variable {O : Wo} {W : Wd} {φ ψ ψ' : Int → Int} {A A' : Ar} {S S' Al : Int → Prop} {N N' : List Int} {qw : List (Int × Int)}

theorem Ext.same (R : Rep O W φ) (C : Cu O W φ A S ψ N) (C' : Cu O W φ A' S' ψ' N') (E : Ext W A S ψ N A' S' ψ' N') (h : A'.grn = A.grn) : ∀ k, S' k → S k := by
  obtain ⟨m, em⟩ := E.pre
  have hm : m = [] := by
    have ht' := C'.tile
    rw [em, List.map_append] at ht'
    obtain ⟨c, h1, h2⟩ := ht'.split
    have e1 : N.map ψ' = N.map ψ := List.map_congr_left fun i hi => E.at_ i ((C.nm i).1 hi).1
    have h3 : Tile A' (N.map ψ') O.ar.grn A.grn := by
      rw [e1]
      refine Tile.congr (fun p hp => ?_) C.tile
      obtain ⟨i, hi, rfl⟩ := List.mem_map.1 hp
      have hS := ((C.nm i).1 hi).1
      rw [C.th i hS, ← E.at_ i hS, C'.th i (E.sub i hS)]
    have := h1.end_ h3
    subst this
    cases m with
    | nil => rfl
    | cons p m =>
      have h5 : ψ' p = (A.grn : Int) := h2.1
      have h6 := Tile.le h2.2.2
      have h7 := A'.thing_fields (ψ' p)
      rw [h] at h6
      omega
  intro k hk
  cases ho : (W.th k).old
  · have := (C'.nm k).2 ⟨hk, ho⟩
    rw [em, hm, List.append_nil] at this
    exact ((C.nm k).1 this).1
  · exact C.so k (C'.sl k hk) ho

/-- A round: what waits, too; if nothing more came, all that is kept was brought over. -/
theorem Sc.round (R : Rep O W φ) (hr : (O.ar.yng : Int) ≤ (O.ar.ws.length : Int) - O.ar.grn) (hal : Closed W.nd qw Al) (hqw : ∀ e ∈ qw, W.okE e) {d : Md} (H : Sc O W φ Al d.s S ψ N) (hs : Sn O W d.s S ψ N d.c) (hc : d.c ≤ d.s.A.grn) (hq : Qrel φ ψ S d.q qw) :
    ∃ S' ψ' N', Sc O W φ Al (mRound d).s S' ψ' N' ∧ SE W d.s S ψ N (mRound d).s S' ψ' N' ∧ Sn O W (mRound d).s S' ψ' N' (mRound d).c ∧ (mRound d).c ≤ (mRound d).s.A.grn ∧ (d.s.A.grn : Int) ≤ (mRound d).c ∧ Qrel φ ψ' S' (mRound d).q qw ∧
      (¬ (mRound d).c < (mRound d).s.A.grn → Closed W.nd qw S') := by
  have hlen := H.C.sm.len
  have h3' := H.C.sm.ok.h3
  have h4' := H.C.sm.ok.h4
  have hc0 : (0 : Int) ≤ d.c := by
    obtain ⟨N1, N2, e, ht, hl⟩ := hs.sp
    have := ht.le
    omega
  obtain ⟨S1, ψ1, N1, H1, E1, n1, c1⟩ := H.scan R hr hal 2000 d.c hs hc (by omega)
  obtain ⟨S2, ψ2, N2, C2, X2, a2, k2⟩ := Cu.eph R hr hal (mScan 2000 d.s d.c).1.ep H1.C H1.al H1.ep
  obtain ⟨S3, ψ3, N3, C3, X3, a3, q3, k3⟩ := Cu.wake R hr hal hqw d.q qw C2 a2 ((hq.mono E1.E).mono X2) (fun f hf => hf)
  obtain ⟨H3, E3⟩ := H1.withA C3 (X2.trans X3) a3
  have e1 : (mRound d).s = { (mScan 2000 d.s d.c).1 with A := (wakeM mAlive mKp (mEph (mScan 2000 d.s d.c).1.A (mScan 2000 d.s d.c).1.ep) d.q).1 } := rfl
  have e2 : (mRound d).c = (mScan 2000 d.s d.c).2 := rfl
  have e3 : (mRound d).q = (wakeM mAlive mKp (mEph (mScan 2000 d.s d.c).1.A (mScan 2000 d.s d.c).1.ep) d.q).2.1 := rfl
  have g3 := (X2.trans X3).grn
  have n3 := n1.more H1.C H3.C E3
  rw [e1, e2, e3]
  refine ⟨S3, ψ3, N3, H3, E1.trans E3, n3, by rw [c1]; exact Int.ofNat_le.2 g3, by rw [c1]; exact Int.ofNat_le.2 E1.E.grn, q3, fun hno => ?_⟩
  have hg : (wakeM mAlive mKp (mEph (mScan 2000 d.s d.c).1.A (mScan 2000 d.s d.c).1.ep) d.q).1.grn = (mScan 2000 d.s d.c).1.A.grn := by
    rw [c1] at hno
    have : ¬ ((mScan 2000 d.s d.c).1.A.grn : Int) < ((wakeM mAlive mKp (mEph (mScan 2000 d.s d.c).1.A (mScan 2000 d.s d.c).1.ep) d.q).1.grn : Int) := hno
    omega
  have back1 := (X2.trans X3).same R H1.C C3 hg
  have back2 : ∀ k, S3 k → S2 k := fun k hk => X2.sub k (back1 k hk)
  have all := n3.all R C3 (by show (mScan 2000 d.s d.c).2 = _; rw [c1]; exact (congrArg Int.ofNat hg).symm)
  have seen : ∀ i, S3 i → Looked W { (mScan 2000 d.s d.c).1 with A := (wakeM mAlive mKp (mEph (mScan 2000 d.s d.c).1.A (mScan 2000 d.s d.c).1.ep) d.q).1 } S3 ψ3 i ∨ Clean W i := fun i hi => by
    cases ho : (W.th i).old
    · exact .inl (all i ((C3.nm i).2 ⟨hi, ho⟩))
    · exact n3.old i (C3.sl i hi) ho
  intro i j hi hl
  have hli := C3.sl i hi
  have inF : ∀ {n : Nat}, (W.th i).fs[n]? = some (3, j) → Clean W i → S3 j := fun hv hcl =>
    C3.so j (Wd.okV_ref (R.hw.tv i hli _ (List.mem_of_getElem? hv)) rfl) (hcl.2 _ (List.mem_of_getElem? hv) rfl)
  rcases hl with ⟨hk, hm⟩ | ⟨hk, hm⟩ | ⟨hk, hm, hkey⟩ | ⟨hk, hm⟩
  · obtain ⟨n, hn, he⟩ := List.mem_iff_getElem.1 (show ((3, j) : Vl) ∈ (W.th i).fs from hm)
    have hv : (W.th i).fs[n]? = some (3, j) := by rw [List.getElem?_eq_getElem hn, he]
    rcases seen i hi with h | h
    · exact (h.1 hk n _ hv).1 rfl
    · exact inF hv h
  · rcases seen i hi with h | h
    · exact ((h.2.1 hk).2 _ hm).1 rfl
    · exact inF hm h
  · rcases seen i hi with h | h
    · have hep := h.2.2 hk
      have hi1 := back1 i hi
      have h2 : ψ1 i ∈ (mScan 2000 d.s d.c).1.ep := by
        rw [← (X2.trans X3).at_ i hi1]; exact hep
      exact X3.sub _ (k2 i hi1 hk h2 (fun v hv h3 => back1 _ (hkey v hv h3)) _ hm rfl)
    · exact inF hm h
  · exact k3 (i, j) hm (back2 i hi)

theorem Sc.drain (R : Rep O W φ) (hr : (O.ar.yng : Int) ≤ (O.ar.ws.length : Int) - O.ar.grn) (hal : Closed W.nd qw Al) (hqw : ∀ e ∈ qw, W.okE e) : ∀ (n : Nat) {d : Md} {S : Int → Prop} {ψ : Int → Int} {N : List Int},
    Sc O W φ Al d.s S ψ N → Sn O W d.s S ψ N d.c → d.c ≤ d.s.A.grn → Qrel φ ψ S d.q qw → ((O.ar.ws.length : Int) - d.s.A.grn).toNat < n →
    ∃ S' ψ' N', Sc O W φ Al (mDrain n d).s S' ψ' N' ∧ SE W d.s S ψ N (mDrain n d).s S' ψ' N' ∧ Sn O W (mDrain n d).s S' ψ' N' (mDrain n d).c ∧ (mDrain n d).c = (mDrain n d).s.A.grn ∧ Qrel φ ψ' S' (mDrain n d).q qw ∧ Closed W.nd qw S'
  | 0, d, S, ψ, N, H, hs, hc, hq, hn => by omega
  | n + 1, d, S, ψ, N, H, hs, hc, hq, hn => by
    obtain ⟨S1, ψ1, N1, H1, E1, n1, l1, g1, q1, k1⟩ := H.round R hr hal hqw hs hc hq
    unfold mDrain
    by_cases hlt : (mRound d).c < (mRound d).s.A.grn
    · rw [if_pos hlt]
      have h3 := H1.C.sm.ok.h3
      have h4 := H1.C.sm.len
      obtain ⟨S2, ψ2, N2, H2, E2, n2, c2, q2, k2⟩ := Sc.drain R hr hal hqw n H1 n1 l1 q1 (by omega)
      exact ⟨S2, ψ2, N2, H2, E1.trans E2, n2, c2, q2, k2⟩
    · rw [if_neg hlt]
      exact ⟨S1, ψ1, N1, H1, E1, n1, by omega, q1, k1 hlt⟩

end
end Go.Proofs.Ytjifdalflepcoac

namespace Go.Proofs.Ytjifdalflepcoac
set_option linter.unusedVariables false
set_option linter.unusedSimpArgs false

section
variable {O : Wo} {W : Wd} {φ ψ ψ' : Int → Int} {A A' : Ar} {S S' Al : Int → Prop} {N N' : List Int} {qw : List (Int × Int)}

/-- At first nothing was brought over. -/
theorem Cu.start (R : Rep O W φ) : Cu O W φ O.ar (fun i => W.live i ∧ (W.th i).old = true) φ [] := by
  refine ⟨Sm.refl R.ho.ha, fun i h => h.1, fun i h1 h2 => ⟨h1, h2⟩, fun _ _ _ => rfl, List.nodup_nil, fun i => ?_, rfl, fun i h => R.th i h.1, fun _ _ _ _ _ _ _ => rfl, (by intro i hi; cases hi), fun i h j v hv => .inl (R.fl i h.1 j v hv)⟩
  constructor
  · intro h; cases h
  · rintro ⟨h1, h2⟩; rw [h1.2] at h2; cases h2

theorem Cu.roots (R : Rep O W φ) (hr : (O.ar.yng : Int) ≤ (O.ar.ws.length : Int) - O.ar.grn) : ∀ (l : List Vl) {A : Ar} {S : Int → Prop} {ψ : Int → Int} {N : List Int}, Cu O W φ A S ψ N → (∀ v ∈ l, W.okV v) →
    CuTo O W φ A S ψ N (mRoots A (l.map (encV φ))).1 (fun k => ((3, k) : Vl) ∈ l) fun S' ψ' N' => (∀ v ∈ l, v.1 = 3 → S' v.2) ∧ (mRoots A (l.map (encV φ))).2 = l.map (encV ψ')
  | [], A, S, ψ, N, C, _ => ⟨S, ψ, N, C, Ext.refl, fun k h => .inl h, by simp, rfl⟩
  | v :: l, A, S, ψ, N, C, hl => by
    obtain ⟨S1, ψ1, N1, C1, E1, h1, h2, h3, _⟩ := C.bring R hr (hl v (by simp)) (x := encV φ v) (.inl rfl)
    obtain ⟨S2, ψ2, N2, C2, E2, h4, h5, h6⟩ := Cu.roots R hr l C1 (fun u hu => hl u (by simp [hu]))
    simp only [List.map_cons, mRoots]
    refine ⟨S2, ψ2, N2, C2, E1.trans E2, fun k hk => ?_, fun u hu h => ?_, ?_⟩
    · rcases h4 k hk with h | h
      · rcases h1 k h with h' | ⟨h', rfl⟩
        · exact .inl h'
        · exact .inr (by rw [← h']; simp)
      · exact .inr (by simp [h])
    · rcases List.mem_cons.1 hu with rfl | hu
      · exact E2.sub _ (h3 h)
      · exact h5 u hu h
    · rw [h2, h6]
      congr 1
      exact (encV_congr (fun h => E2.at_ _ (h3 h))).symm

theorem Sc.dirty (R : Rep O W φ) (hr : (O.ar.yng : Int) ≤ (O.ar.ws.length : Int) - O.ar.grn) (hal : Closed W.nd qw Al) : ∀ (l : List Int) {s : Ms} {S : Int → Prop} {ψ : Int → Int} {N : List Int}, Sc O W φ Al s S ψ N → (∀ p ∈ l, ∃ i, W.live i ∧ (W.th i).old = true ∧ p = φ i) →
    ∃ S' ψ' N', Sc O W φ Al (mDirty O.ar.nur O.cd s l) S' ψ' N' ∧ SE W s S ψ N (mDirty O.ar.nur O.cd s l) S' ψ' N' ∧ ∀ i, W.live i → (W.th i).old = true → φ i ∈ l → Looked W (mDirty O.ar.nur O.cd s l) S' ψ' i ∨ Clean W i
  | [], s, S, ψ, N, H, _ => ⟨S, ψ, N, H, SE.refl, fun i _ _ h => by cases h⟩
  | p :: l, s, S, ψ, N, H, hl => by
    obtain ⟨i, hi, ho, rfl⟩ := hl p (by simp)
    have hS := H.C.so i hi ho
    have step : ∃ S1 ψ1 N1, Sc O W φ Al (if dirtyL O.ar.nur O.cd (φ i) = true then mLook s (φ i) else s) S1 ψ1 N1 ∧ SE W s S ψ N (if dirtyL O.ar.nur O.cd (φ i) = true then mLook s (φ i) else s) S1 ψ1 N1 ∧ (Looked W (if dirtyL O.ar.nur O.cd (φ i) = true then mLook s (φ i) else s) S1 ψ1 i ∨ Clean W i) := by
      by_cases hd : dirtyL O.ar.nur O.cd (φ i) = true
      · rw [if_pos hd, ← H.C.po i hi ho]
        obtain ⟨S1, ψ1, N1, H1, E1, hL⟩ := H.look R hr hal hS
        exact ⟨S1, ψ1, N1, H1, E1, .inl hL⟩
      · rw [if_neg hd]
        refine ⟨S, ψ, N, H, SE.refl, .inr ⟨ho, fun v hv h3 => ?_⟩⟩
        cases hv' : (W.th v.2).old
        · exact (hd (R.card i hi ho v hv h3 hv')).elim
        · rfl
    obtain ⟨S1, ψ1, N1, H1, E1, k1⟩ := step
    obtain ⟨S2, ψ2, N2, H2, E2, k2⟩ := Sc.dirty R hr hal l H1 (fun p hp => hl p (by simp [hp]))
    have e : mDirty O.ar.nur O.cd s (φ i :: l) = mDirty O.ar.nur O.cd (if dirtyL O.ar.nur O.cd (φ i) = true then mLook s (φ i) else s) l := rfl
    rw [e]
    refine ⟨S2, ψ2, N2, H2, E1.trans E2, fun k hk hko hkl => ?_⟩
    rcases List.mem_cons.1 hkl with h | h
    · have := R.inj k i hk hi h
      subst this
      rcases k1 with h1 | h1
      · exact .inl (h1.mono E2 (E1.E.sub k hS))
      · exact .inr h1
    · exact k2 k hk hko h

/-- Between the drains: all that is kept was brought over. -/
structure Ps (O : Wo) (W : Wd) (φ : Int → Int) (rw_ : List Int) (t : Mt) (q : List (Int × Int)) (is : List Bool) (qw : List (Int × Int)) (ψ : Int → Int) (N : List Int) : Prop where
  H : Sc O W φ (fun k => atB is k = true) t.1 (fun k => atB is k = true) ψ N
  n : Sn O W t.1 (fun k => atB is k = true) ψ N t.2
  c : t.2 = t.1.A.grn
  q : Qrel φ ψ (fun k => atB is k = true) q qw
  ok : ∀ e ∈ qw, W.okE e
  shut : Closed W.nd qw fun k => atB is k = true
  len : is.length = W.T.length
  rt : ∀ v ∈ W.roots, v.1 = 3 → atB is v.2 = true
  rw_ : rw_ = W.roots.map (encV ψ)

theorem Sc.setAl {s : Ms} (H : Sc O W φ Al s S ψ N) {Bl : Int → Prop} (h : ∀ k, S k → Bl k) : Sc O W φ Bl s S ψ N := ⟨H.C, h, H.wk, H.ep⟩

/-- A drain makes just what is kept alive. -/
theorem Sc.drainP (R : Rep O W φ) (hr : (O.ar.yng : Int) ≤ (O.ar.ws.length : Int) - O.ar.grn) (hqw : ∀ e ∈ qw, W.okE e) {d : Md} {is : List Bool} (hlen : is.length = W.T.length) (hS : ∀ k, S k ↔ atB is k = true)
    (H : Sc O W φ (fun k => Alive W.nd qw (fun k => atB is k = true) k) d.s S ψ N) (hs : Sn O W d.s S ψ N d.c) (hc : d.c ≤ d.s.A.grn) (hq : Qrel φ ψ S d.q qw) {rts : List Int} (hrt : ∀ v ∈ W.roots, v.1 = 3 → S v.2) (hrw : rts = W.roots.map (encV ψ)) :
    ∃ ψ' N', Ps O W φ rts ((mDrain 2000 d).s, (mDrain 2000 d).c) (mDrain 2000 d).q (W.clo qw is) qw ψ' N' ∧ SE W d.s S ψ N (mDrain 2000 d).s (fun k => atB (W.clo qw is) k = true) ψ' N' := by
  have h3 := H.C.sm.ok.h3; have h4 := H.C.sm.ok.h4; have h5 := H.C.sm.len
  obtain ⟨S1, ψ1, N1, H1, E1, n1, c1, q1, k1⟩ := H.drain R hr (Alive.closed W.nd qw _) hqw 2000 hs hc hq (by omega)
  have e : S1 = fun k => atB (W.clo qw is) k = true := by
    funext k
    refine propext ⟨fun hk => ?_, fun hk => ?_⟩
    · have hl := H1.C.sl k hk
      exact cloL_at.2 ⟨hl.1, by rw [hlen]; exact hl.2.1, H1.al k hk⟩
    · exact (cloL_at.1 hk).2.2.least (fun j hj => E1.E.sub j ((hS j).2 hj)) k1
  subst e
  refine ⟨ψ1, N1, ⟨H1.setAl (fun k hk => hk), n1, c1, q1, hqw, k1, by unfold Wd.clo; rw [cloL_length, hlen], fun v hv h => E1.E.sub _ (hrt v hv h), ?_⟩, E1⟩
  rw [hrw]
  exact List.map_congr_left fun v hv => (encV_congr (fun h => E1.E.at_ _ (hrt v hv h))).symm

/-- Ahead of Settle. -/
theorem Rep.pre (R : Rep O W φ) (hr : (O.ar.yng : Int) ≤ (O.ar.ws.length : Int) - O.ar.grn) : ∃ ψ N, Ps O W φ (mRoots O.ar O.rt).2 ((mPre O).s, (mPre O).c) (mPre O).q (W.clo W.wait (W.first false)) W.wait ψ N := by
  have hal := Alive.closed W.nd W.wait (fun k => atB (W.first false) k = true)
  have C0 := Cu.start R
  obtain ⟨S1, ψ1, N1, C1, E1, h1, h2, h3⟩ := Cu.roots R hr W.roots C0 R.hw.rv
  rw [← R.rt] at C1 E1 h3
  have hS1 : ∀ k, S1 k ↔ atB (W.first false) k = true := fun k => by
    rw [Wd.first_at]
    constructor
    · intro hk
      have hl := C1.sl k hk
      refine ⟨hl.1, hl.2.1, ?_⟩
      rcases h1 k hk with h | h
      · exact .inl ⟨h.2, hl.2.2, rfl⟩
      · exact .inr h
    · rintro ⟨h0, h4, h5 | h5⟩
      · exact C1.so k ⟨h0, h4, h5.2.1⟩ h5.1
      · exact h2 _ h5 rfl
  have H1 : Sc O W φ (fun k => Alive W.nd W.wait (fun k => atB (W.first false) k = true) k) ⟨(mRoots O.ar O.rt).1, [], []⟩ S1 ψ1 N1 := ⟨C1, fun k hk => Alive.base ((hS1 k).1 hk), (by intro p hp; cases hp), (by intro p hp; cases hp)⟩
  have hz : ∀ p ∈ O.ar.things.2, ∃ i, W.live i ∧ (W.th i).old = true ∧ p = φ i := fun p hp => by
    have := (R.perm_o.mem_iff (a := p)).1 hp
    obtain ⟨i, hi, rfl⟩ := List.mem_map.1 this
    have := Wd.mem_idx.1 hi
    exact ⟨i, this.1, this.2, rfl⟩
  obtain ⟨S2, ψ2, N2, H2, E2, k2⟩ := H1.dirty R hr hal O.ar.things.2 hz
  have hn2 : Sn O W (mDirty O.ar.nur O.cd ⟨(mRoots O.ar O.rt).1, [], []⟩ O.ar.things.2) S2 ψ2 N2 O.ar.grn :=
    ⟨⟨[], N2, rfl, rfl, (by intro i hi; cases hi)⟩, fun i hi ho => k2 i hi ho (R.ino i hi ho)⟩
  have hq0 : ∀ (m : List (Int × Int)), Qrel φ ψ2 S2 (m.map (encE φ)) m := fun m => by
    induction m with
    | nil => trivial
    | cons f m ih =>
      refine ⟨⟨?_, .inl ?_⟩, ih⟩
      · rw [encV_ref φ rfl]; rfl
      · rw [encV_ref φ rfl]; rfl
  have h3' := H2.C.sm.ok.h3; have h4' := H2.C.sm.ok.h4; have h5' := H2.C.sm.len
  have hflen : (W.first false).length = W.T.length := Wd.first_length W false
  obtain ⟨S3, ψ3, N3, H3, E3, n3, c3, q3, k3⟩ := H2.drain R hr hal R.hw.wv 2000 (d := ⟨mDirty O.ar.nur O.cd ⟨(mRoots O.ar O.rt).1, [], []⟩ O.ar.things.2, O.ar.grn, O.wt⟩) hn2 (Int.ofNat_le.2 (Nat.le_trans E1.grn E2.E.grn)) (by
    show Qrel φ ψ2 S2 O.wt W.wait
    rw [R.wt]; exact hq0 _) (by show ((O.ar.ws.length : Int) - _).toNat < 2000; omega)
  have e : S3 = fun k => atB (W.clo W.wait (W.first false)) k = true := by
    funext k
    refine propext ⟨fun hk => ?_, fun hk => ?_⟩
    · have hl := H3.C.sl k hk
      exact cloL_at.2 ⟨hl.1, by rw [hflen]; exact hl.2.1, H3.al k hk⟩
    · exact (cloL_at.1 hk).2.2.least (fun j hj => E3.E.sub j (E2.E.sub j ((hS1 j).2 hj))) k3
  subst e
  have at3 : ∀ k, S1 k → ψ3 k = ψ1 k := fun k hk => (E3.E.at_ k (E2.E.sub k hk)).trans (E2.E.at_ k hk)
  refine ⟨ψ3, N3, ⟨H3.setAl (fun k hk => hk), n3, c3, q3, R.hw.wv, k3, by unfold Wd.clo; rw [cloL_length, hflen], fun v hv h => E3.E.sub _ (E2.E.sub _ (h2 v hv h)), ?_⟩⟩
  rw [h3]
  exact List.map_congr_left fun v hv => (encV_congr (fun h => at3 _ (h2 v hv h))).symm

/-- One more is kept. -/
theorem Ps.keep (R : Rep O W φ) (hr : (O.ar.yng : Int) ≤ (O.ar.ws.length : Int) - O.ar.grn) {rts : List Int} {t : Mt} {q : List (Int × Int)} {is : List Bool} (P : Ps O W φ rts t q is qw ψ N) {x g : Int} (hx : W.live x) (hg : W.live g) (hk : (W.th g).k = 5) :
    ∃ ψ' N', Ps O W φ rts (mtKeep t q (encV φ (3, x))).1 ((mtKeep t q (encV φ (3, x))).2.1 ++ [(encV φ (3, g), (mtKeep t q (encV φ (3, x))).2.2)]) (W.clo qw (is.set x.toNat true)) (qw ++ [(g, x)]) ψ' N' := by
  have okx : W.okV (3, x) := .inr (.inr (.inr ⟨rfl, hx⟩))
  obtain ⟨S1, ψ1, N1, C1, E1, h1, h2, h3, _⟩ := P.H.C.bring R hr okx (x := encV φ (3, x)) (.inl rfl)
  have hS1 : ∀ k, S1 k ↔ atB (is.set x.toNat true) k = true := fun k => by
    rw [atB_set hx.1 (by rw [P.len]; exact hx.2.1)]
    constructor
    · intro hk
      rcases h1 k hk with h | ⟨_, rfl⟩
      · exact .inr h
      · exact .inl rfl
    · rintro (rfl | h)
      · exact h3 rfl
      · exact E1.sub k h
  obtain ⟨H1, SE1⟩ := (P.H.setAl (Bl := fun k => Alive W.nd qw (fun k => atB (is.set x.toNat true) k = true) k) (fun k hk => Alive.base ((hS1 k).1 (E1.sub k hk)))).withA C1 E1 (fun k hk => Alive.base ((hS1 k).1 hk))
  have hn1 := P.n.more P.H.C C1 SE1
  have hq1 := P.q.mono E1
  obtain ⟨ψ2, N2, P2, SE2⟩ := H1.drainP (d := ⟨{ t.1 with A := mBring t.1.A (encV φ (3, x)) }, t.2, q⟩) R hr P.ok (by rw [List.length_set]; exact P.len) hS1 hn1 (by show t.2 ≤ _; rw [P.c]; exact Int.ofNat_le.2 E1.grn) hq1 (rts := rts) (fun v hv h => E1.sub _ (P.rt v hv h)) (by
    rw [P.rw_]
    exact List.map_congr_left fun v hv => (encV_congr (fun h => E1.at_ _ (P.rt v hv h))).symm)
  have hxin : atB (W.clo qw (is.set x.toNat true)) x = true := SE2.E.sub _ (h3 rfl)
  refine ⟨ψ2, N2, ⟨P2.H, P2.n, P2.c, Qrel.app ⟨rfl, ?_⟩ P2.q, fun e he => ?_, ?_, P2.len, P2.rt, P2.rw_⟩⟩
  · refine .inr ⟨fun _ => hxin, ?_⟩
    show mNow (mBring t.1.A (encV φ (3, x))) (encV φ (3, x)) = _
    rw [h2]
    exact (encV_congr (fun h => SE2.E.at_ _ (h3 rfl))).symm
  · rcases List.mem_append.1 he with h | h
    · exact P.ok e h
    · rw [List.mem_singleton.1 h]; exact ⟨hg, hk, hx⟩
  · intro a b ha hl
    by_cases hb : b = x
    · subst hb; exact hxin
    · refine P2.shut a b ha ?_
      rcases hl with h | h | h | ⟨h, h'⟩
      · exact .inl h
      · exact .inr (.inl h)
      · exact .inr (.inr (.inl h))
      · refine .inr (.inr (.inr ⟨h, ?_⟩))
        rcases List.mem_append.1 h' with h4 | h4
        · exact h4
        · simp at h4; exact absurd h4.2 hb

/-- What is gone over, in the wood. -/
def encI (φ : Int → Int) (i : It) : It := (encE φ i.1, i.2)

theorem encE_eq (φ : Int → Int) (e : Int × Int) : encE φ e = (encV φ (3, e.1), encV φ (3, e.2)) := by
  rw [encV_ref φ rfl, encV_ref φ rfl]; rfl

theorem Ps.alive (R : Rep O W φ) {rts : List Int} {t : Mt} {q : List (Int × Int)} {is : List Bool} (P : Ps O W φ rts t q is qw ψ N) {x : Int} (hx : W.live x) : mtAlive t (encV φ (3, x)) = atB is x := by
  have := P.H.C.alive R (v := (3, x)) (x := encV φ (3, x)) (.inr (.inr (.inr ⟨rfl, hx⟩))) (.inl rfl)
  simp only [forall_const] at this
  rw [Bool.eq_iff_iff]
  exact this

theorem Ps.scan (R : Rep O W φ) (hr : (O.ar.yng : Int) ≤ (O.ar.ws.length : Int) - O.ar.grn) {rts : List Int} : ∀ (l : List It) {t : Mt} {q : List (Int × Int)} {is : List Bool} {qw : List (Int × Int)} {ψ : Int → Int} {N : List Int}, Ps O W φ rts t q is qw ψ N → (∀ i ∈ l, W.okE i.1) →
    ∃ ψ' N', Ps O W φ rts (scanM mtAlive mtKeep t q (l.map (encI φ))).1 (scanM mtAlive mtKeep t q (l.map (encI φ))).2.1 (scanM atB W.keepW is qw l).1 (scanM atB W.keepW is qw l).2.1 ψ' N' ∧
      (scanM mtAlive mtKeep t q (l.map (encI φ))).2.2.1 = (scanM atB W.keepW is qw l).2.2.1.map (encI φ) ∧ (scanM mtAlive mtKeep t q (l.map (encI φ))).2.2.2 = (scanM atB W.keepW is qw l).2.2.2
  | [], t, q, is, qw, ψ, N, P, _ => ⟨ψ, N, P, rfl, rfl⟩
  | i :: l, t, q, is, qw, ψ, N, P, hl => by
    have hi := hl i (by simp)
    have ea : mtAlive t (encI φ i).1.1 = atB is i.1.1 := by
      show mtAlive t (encE φ i.1).1 = _
      rw [encE_eq]; exact P.alive R hi.1
    simp only [List.map_cons, scanM]
    rw [ea]
    have e2 : (encI φ i).2 = i.2 := rfl
    rw [e2]
    by_cases hc : (i.2.1 && !i.2.2 && atB is i.1.1) = true
    · rw [if_pos hc, if_pos hc]
      obtain ⟨ψ1, N1, P1⟩ := P.keep R hr hi.2.2 hi.1 hi.2.1
      have e3 : (encI φ i).1.2 = encV φ (3, i.1.2) := by show (encE φ i.1).2 = _; rw [encE_eq]
      have e4 : (encI φ i).1.1 = encV φ (3, i.1.1) := by show (encE φ i.1).1 = _; rw [encE_eq]
      rw [← e3, ← e4] at P1
      obtain ⟨ψ2, N2, P2, h1, h2⟩ := Ps.scan R hr l P1 (fun j hj => hl j (by simp [hj]))
      refine ⟨ψ2, N2, P2, ?_, rfl⟩
      dsimp only
      rw [h1]; rfl
    · rw [if_neg hc, if_neg hc]
      obtain ⟨ψ2, N2, P2, h1, h2⟩ := Ps.scan R hr l P (fun j hj => hl j (by simp [hj]))
      refine ⟨ψ2, N2, P2, ?_, h2⟩
      dsimp only
      rw [h1]; rfl

theorem Ps.rounds (R : Rep O W φ) (hr : (O.ar.yng : Int) ≤ (O.ar.ws.length : Int) - O.ar.grn) {rts : List Int} : ∀ (n : Nat) (l : List It) {t : Mt} {q : List (Int × Int)} {is : List Bool} {qw : List (Int × Int)} {ψ : Int → Int} {N : List Int}, Ps O W φ rts t q is qw ψ N → (∀ i ∈ l, W.okE i.1) →
    ∃ ψ' N', Ps O W φ rts (roundsM mtAlive mtKeep n t q (l.map (encI φ))).1 (roundsM mtAlive mtKeep n t q (l.map (encI φ))).2.1 (roundsM atB W.keepW n is qw l).1 (roundsM atB W.keepW n is qw l).2.1 ψ' N' ∧
      (roundsM mtAlive mtKeep n t q (l.map (encI φ))).2.2 = (roundsM atB W.keepW n is qw l).2.2.map (encI φ)
  | 0, l, t, q, is, qw, ψ, N, P, hl => ⟨ψ, N, P, rfl⟩
  | n + 1, l, t, q, is, qw, ψ, N, P, hl => by
    obtain ⟨ψ1, N1, P1, h1, h2⟩ := P.scan R hr l hl
    have hl1 := scan_items is qw hl
    simp only [roundsM]
    rw [h2]
    by_cases hc : (scanM atB W.keepW is qw l).2.2.2 = true
    · rw [if_pos hc, if_pos hc, h1]
      exact Ps.rounds R hr n _ P1 hl1
    · rw [if_neg hc, if_neg hc]
      exact ⟨ψ1, N1, P1, h1⟩

/-- Behind Settle's passes. -/
theorem Rep.passes (R : Rep O W φ) (hr : (O.ar.yng : Int) ≤ (O.ar.ws.length : Int) - O.ar.grn) : ∃ ψ N, Ps O W φ (mRoots O.ar O.rt).2 (mPass O).1 (mPass O).2.1 (W.pass false).1 (W.pass false).2.1 ψ N ∧ (mPass O).2.2 = (W.pass false).2.2.map (encI φ) := by
  obtain ⟨ψ0, N0, P0⟩ := R.pre hr
  have e : itemsM mtAlive ((mPre O).s, (mPre O).c) O.rg = (itemsM atB (W.clo W.wait (W.first false)) W.regs).map (encI φ) := by
    unfold itemsM
    rw [R.rg, List.map_map, List.map_map]
    refine List.map_congr_left fun e he => ?_
    have := R.hw.gv e he
    show (encE φ e, !mtAlive _ (encE φ e).2, false) = (encE φ e, !atB _ e.2, false)
    rw [show (encE φ e).2 = encV φ (3, e.2) by rw [encE_eq], P0.alive R this.2.2]
  have hlen : O.rg.length = W.regs.length := by rw [R.rg]; simp
  unfold mPass Wd.pass passM
  rw [e, hlen]
  exact P0.rounds R hr _ _ (fun i hi => by
    simp only [itemsM, List.mem_map] at hi
    obtain ⟨e, he, rfl⟩ := hi
    exact R.hw.gv e he)

end
end Go.Proofs.Ytjifdalflepcoac

namespace Go.Proofs.Ytjifdalflepcoac
set_option linter.unusedVariables false
set_option linter.unusedSimpArgs false

section
variable {O : Wo} {W : Wd} {φ ψ : Int → Int} {A B : Ar} {is : List Bool} {N : List Int} {qw : List (Int × Int)}

theorem Cu.encR {S : Int → Prop} (R : Rep O W φ) (C : Cu O W φ A S ψ N) {v : Vl} (hok : W.okV v) (hs : v.1 = 3 → S v.2) : R64 (encV ψ v) := by
  have b3 := C.sm.ok.h3; have b4 := C.sm.ok.h4
  unfold R64
  rcases hok with h | h | h | h
  · have e : encV ψ v = 2 := by simp [encV, h.1]
    rw [e]; decide
  · have e : encV ψ v = 4 * v.2 := by simp [encV, h.1]
    have := h.2
    unfold big at this
    rw [e]; omega
  · have e : encV ψ v = 3 := by simp [encV, h.1]
    rw [e]; decide
  · rw [encV_ref ψ h.1]
    have := C.place R (hs h.1)
    omega

theorem R64_three : R64 3 := by unfold R64; decide

/-- Words of things that are alive are other ones, no more. -/
structure Gb (ψ : Int → Int) (is : List Bool) (A B : Ar) : Prop where
  sm : Sm A B
  grn : B.grn = A.grn
  yl : ∀ q, A.young q = true → B.load q = A.load q
  hd : ∀ k, atB is k = true → B.thing (ψ k) = A.thing (ψ k)

theorem Gb.alive (G : Gb ψ is A B) (x : Int) : mAlive B x = mAlive A x := by
  have hy : B.young (x / 4) = A.young (x / 4) := by unfold Ar.young; rw [G.sm.yng]
  unfold mAlive
  rw [hy]
  cases h : A.young (x / 4)
  · simp
  · rw [G.yl _ h]

theorem Gb.now (G : Gb ψ is A B) (x : Int) : mNow B x = mNow A x := by
  have hy : B.young (x / 4) = A.young (x / 4) := by unfold Ar.young; rw [G.sm.yng]
  unfold mNow
  rw [hy]
  cases h : A.young (x / 4)
  · simp
  · rw [G.yl _ h]

theorem Gb.put (R : Rep O W φ) (C : Cu O W φ A (fun k => atB is k = true) ψ N) (G : Gb ψ is A B) {i : Int} (hi : atB is i = true) {j : Nat} (hj : j < (W.th i).fs.length) {x : Int} (hx : R64 x) :
    Gb ψ is A (B.store (ψ i + 1 + j) x) ∧ (B.store (ψ i + 1 + j) x).load (ψ i + 1 + j) = x ∧
    ∀ k, atB is k = true → ∀ n, n < (W.th k).fs.length → (k ≠ i ∨ n ≠ j) → (B.store (ψ i + 1 + j) x).load (ψ k + 1 + n) = B.load (ψ k + 1 + n) := by
  have hB := G.sm.ok
  have hld := fun q => Ar.load_store hB (ψ i + 1 + (j : Int)) q x
  have hne : ∀ q, q ≠ ψ i + 1 + j → (B.store (ψ i + 1 + j) x).load q = B.load q := fun q hq => by rw [hld, if_neg (fun h => hq h.1)]
  have hpi := C.place R hi
  have b1 := C.sm.ok.h1
  have huse : B.inUse (ψ i + 1 + j) = true := by
    have := C.inO R hi (j := 1 + (j : Int)) (by omega) (by omega)
    rw [← Int.add_assoc] at this
    unfold Ar.inUse Ar.old at *
    rw [G.grn, G.sm.nur, this]; simp
  refine ⟨⟨G.sm.trans (Sm.store hB _ hx), by rw [Ar.store_grn]; exact G.grn, fun q hq => ?_, fun k hk => ?_⟩, by rw [hld, if_pos ⟨rfl, huse⟩], fun k hk n hn hne' => hne _ ?_⟩
  · rw [hne q (by have := young_iff.1 hq; omega)]; exact G.yl q hq
  · have : (B.store (ψ i + 1 + j) x).thing (ψ k) = B.thing (ψ k) := by
      refine thing_of_load (hne _ ?_)
      by_cases e : k = i
      · subst e; omega
      · have := C.apart R hk hi e; omega
    rw [this]; exact G.hd k hk
  · by_cases e : k = i
    · subst e
      have : n ≠ j := by rcases hne' with h | h; exact absurd rfl h; exact h
      omega
    · have := C.apart R hk hi e; omega

/-- The fields behind the cut. -/
def cutF (W : Wd) (is : List Bool) (i : Int) : List Vl := (cutT is i.toNat (W.th i)).fs

def FinF (W : Wd) (ψ : Int → Int) (is : List Bool) (B : Ar) (i : Int) : Prop := ∀ (j : Nat) (v : Vl), (cutF W is i)[j]? = some v → B.load (ψ i + 1 + j) = encV ψ v
def RawF (W : Wd) (φ ψ : Int → Int) (is : List Bool) (B : Ar) (i : Int) : Prop := ∀ (j : Nat) (v : Vl), (W.th i).fs[j]? = some v → Wrd φ ψ (fun k => atB is k = true) (B.load (ψ i + 1 + j)) v

theorem cutF_eq {i : Int} (h0 : 0 ≤ i) (hb : atB is i = true) : cutF W is i =
    if (W.th i).k = 4 ∧ inS is ((W.th i).fs.getD 0 (0, 0)) = false then [(2, 0), (2, 0)] else if (W.th i).k = 3 ∧ inS is ((W.th i).fs.getD 0 (0, 0)) = false then [(2, 0), (W.th i).fs.getD 1 (0, 0)] else (W.th i).fs := by
  unfold cutF cutT
  rw [if_pos (by rw [atB_toNat h0]; exact hb)]

theorem inS_iff {v : Vl} : inS is v = true ↔ (v.1 = 3 → atB is v.2 = true) := by
  unfold inS
  by_cases h : v.1 = 3
  · simp [h]
  · simp [h]

theorem list_two {α : Type} {l : List α} (h : l.length = 2) : ∃ a b, l = [a, b] := by
  match l, h with
  | [a, b], _ => exact ⟨a, b, rfl⟩

/-- In the midst of going over what is gone. -/
structure Gn (W : Wd) (φ ψ : Int → Int) (is : List Bool) (A B : Ar) : Prop where
  G : Gb ψ is A B
  f : ∀ i, atB is i = true → FinF W ψ is B i ∨ ((W.th i).k = 3 ∧ RawF W φ ψ is B i ∧ ∀ v, (W.th i).fs[1]? = some v → B.load (ψ i + 2) = encV ψ v) ∨ ((W.th i).k = 4 ∧ RawF W φ ψ is B i)

theorem FinF.congr {B' : Ar} {i : Int} (hl : (cutF W is i).length = (W.th i).fs.length) (h : ∀ n, n < (W.th i).fs.length → B'.load (ψ i + 1 + n) = B.load (ψ i + 1 + n)) (hf : FinF W ψ is B i) : FinF W ψ is B' i := fun j v hv => by
  have := (List.getElem?_eq_some_iff.1 hv).1
  rw [h j (by omega)]; exact hf j v hv

theorem RawF.congr {B' : Ar} {i : Int} (h : ∀ n, n < (W.th i).fs.length → B'.load (ψ i + 1 + n) = B.load (ψ i + 1 + n)) (hf : RawF W φ ψ is B i) : RawF W φ ψ is B' i := fun j v hv => by
  rw [h j (List.getElem?_eq_some_iff.1 hv).1]; exact hf j v hv

theorem cutF_len (R : Rep O W φ) (C : Cu O W φ A (fun k => atB is k = true) ψ N) {i : Int} (hi : atB is i = true) : (cutF W is i).length = (W.th i).fs.length := by
  have hl := C.sl i hi
  exact cutT_len (by rw [atB_toNat hl.1]; exact hi) (R.hw.tk i hl)

theorem Gn.other (R : Rep O W φ) (C : Cu O W φ A (fun k => atB is k = true) ψ N) (g : Gn W φ ψ is A B) {B' : Ar} (G' : Gb ψ is A B') {i : Int} (hfin : FinF W ψ is B' i)
    (h : ∀ k, atB is k = true → k ≠ i → ∀ n, n < (W.th k).fs.length → B'.load (ψ k + 1 + n) = B.load (ψ k + 1 + n)) : Gn W φ ψ is A B' := by
  refine ⟨G', fun k hk => ?_⟩
  by_cases e : k = i
  · subst e; exact .inl hfin
  · rcases g.f k hk with h1 | ⟨h1, h2, h3⟩ | ⟨h1, h2⟩
    · exact .inl (h1.congr (cutF_len R C hk) (h k hk e))
    · refine .inr (.inl ⟨h1, h2.congr (h k hk e), fun v hv => ?_⟩)
      have hh := h k hk e 1 (List.getElem?_eq_some_iff.1 hv).1
      rw [show ψ k + 1 + ((1 : Nat) : Int) = ψ k + 2 by omega] at hh
      rw [hh]; exact h3 v hv
    · exact .inr (.inr ⟨h1, h2.congr (h k hk e)⟩)

theorem enc_gone (ψ : Int → Int) : encV ψ (2, 0) = 3 := rfl
theorem now_three (B : Ar) : mNow B 3 = 3 := mNow_plain (by decide)
theorem alive_three (B : Ar) : mAlive B 3 = true := mAlive_plain (by decide)

/-- What stands in the first field of a weak pair, or an ephemeron. -/
theorem Gn.key (R : Rep O W φ) (C : Cu O W φ A (fun k => atB is k = true) ψ N) (g : Gn W φ ψ is A B) {i : Int} (hi : atB is i = true) {v0 v1 : Vl} (hk : (W.th i).k = 3 ∨ (W.th i).k = 4) (hfs : (W.th i).fs = [v0, v1]) :
    (inS is v0 = true → mAlive B (B.load (ψ i + 1)) = true ∧ mNow B (B.load (ψ i + 1)) = encV ψ v0) ∧
    (inS is v0 = false → (FinF W ψ is B i ∧ B.load (ψ i + 1) = 3) ∨ mAlive B (B.load (ψ i + 1)) = false) := by
  have hl := C.sl i hi
  have ok0 := R.hw.tv i hl v0 (by rw [hfs]; simp)
  have e0 : ψ i + 1 + ((0 : Nat) : Int) = ψ i + 1 := by omega
  have hc := cutF_eq (W := W) hl.1 hi
  rw [hfs] at hc
  simp only [List.getD_cons_zero, List.getD_cons_succ] at hc
  constructor
  · intro hs
    have hw : Wrd φ ψ (fun k => atB is k = true) (B.load (ψ i + 1)) v0 := by
      rw [if_neg (fun h => by rw [hs] at h; cases h.2), if_neg (fun h => by rw [hs] at h; cases h.2)] at hc
      rcases g.f i hi with h | ⟨_, h, _⟩ | ⟨_, h⟩
      · have := h 0 v0 (by rw [hc]; rfl)
        rw [e0] at this
        exact .inr ⟨inS_iff.1 hs, this⟩
      · have := h 0 v0 (by rw [hfs]; rfl); rwa [e0] at this
      · have := h 0 v0 (by rw [hfs]; rfl); rwa [e0] at this
    rw [g.G.alive, g.G.now]
    exact ⟨(C.alive R ok0 hw).2 (inS_iff.1 hs), C.now R ok0 hw (inS_iff.1 hs)⟩
  · intro hs
    have hn : ¬ (v0.1 = 3 → atB is v0.2 = true) := fun h => by rw [inS_iff.2 h] at hs; cases hs
    have raw : RawF W φ ψ is B i → mAlive B (B.load (ψ i + 1)) = false := fun h => by
      have h1 := h 0 v0 (by rw [hfs]; rfl)
      rw [e0] at h1
      rw [g.G.alive]
      cases ha : mAlive A (B.load (ψ i + 1))
      · rfl
      · exact (hn ((C.alive R ok0 h1).1 ha)).elim
    rcases g.f i hi with h | ⟨_, h, _⟩ | ⟨_, h⟩
    · refine .inl ⟨h, ?_⟩
      have h2 : (cutF W is i)[0]? = some (2, 0) := by
        rw [hc]
        rcases hk with hk | hk
        · rw [if_neg (fun h => by omega), if_pos ⟨hk, hs⟩]; rfl
        · rw [if_pos ⟨hk, hs⟩]; rfl
      have := h 0 _ h2
      rw [e0] at this
      rw [this, enc_gone]
    · exact .inr (raw h)
    · exact .inr (raw h)

theorem Gn.weak (R : Rep O W φ) (C : Cu O W φ A (fun k => atB is k = true) ψ N) (g : Gn W φ ψ is A B) {i : Int} (hi : atB is i = true) (hk : (W.th i).k = 3) :
    Gn W φ ψ is A (mFix B (ψ i + 1) (!mAlive B (B.load (ψ i + 1)))) ∧ FinF W ψ is (mFix B (ψ i + 1) (!mAlive B (B.load (ψ i + 1)))) i := by
  have hl := C.sl i hi
  have h2 := Wd.two R.hw hl (.inl hk)
  obtain ⟨v0, v1, hfs⟩ := list_two h2
  have ok0 := R.hw.tv i hl v0 (by rw [hfs]; simp)
  obtain ⟨k1, k2⟩ := g.key R C hi (.inl hk) hfs
  have hc := cutF_eq (W := W) hl.1 hi
  rw [hfs] at hc
  simp only [List.getD_cons_zero, List.getD_cons_succ] at hc
  rw [if_neg (fun h => by omega)] at hc
  have e0 : ψ i + 1 + ((0 : Nat) : Int) = ψ i + 1 := by omega
  have e1 : ψ i + 1 + ((1 : Nat) : Int) = ψ i + 2 := by omega
  have hval : ∃ w, cutF W is i = [w, v1] ∧ (if (!mAlive B (B.load (ψ i + 1))) = true then 3 else mNow B (B.load (ψ i + 1))) = encV ψ w ∧ R64 (encV ψ w) := by
    cases hs : inS is v0
    · rw [if_pos ⟨hk, hs⟩] at hc
      refine ⟨(2, 0), hc, ?_, by rw [enc_gone]; exact R64_three⟩
      rcases k2 hs with ⟨_, h⟩ | h
      · rw [h, alive_three, now_three]; rfl
      · rw [h]; rfl
    · rw [if_neg (fun h => by rw [hs] at h; cases h.2)] at hc
      obtain ⟨h1, h3⟩ := k1 hs
      exact ⟨v0, hc, by rw [h1, h3]; rfl, C.encR R ok0 (inS_iff.1 hs)⟩
  obtain ⟨w, hcw, hv, hR⟩ := hval
  have hB : mFix B (ψ i + 1) (!mAlive B (B.load (ψ i + 1))) = B.store (ψ i + 1 + ((0 : Nat) : Int)) (encV ψ w) := by
    rw [e0]; unfold mFix; rw [hv]
  obtain ⟨G', a1, a2⟩ := g.G.put R C hi (j := 0) (by omega) hR
  have hfin : FinF W ψ is (mFix B (ψ i + 1) (!mAlive B (B.load (ψ i + 1)))) i := by
    rw [hB]
    intro j v hv'
    rw [hcw] at hv'
    match j, hv' with
    | 0, hv' => simp at hv'; subst hv'; exact a1
    | 1, hv' =>
      simp at hv'; subst hv'
      rw [a2 i hi 1 (by omega) (.inr (by decide)), e1]
      rcases g.f i hi with h | ⟨_, _, h⟩ | ⟨h, _⟩
      · have := h 1 v1 (by rw [hcw]; rfl); rwa [e1] at this
      · exact h v1 (by rw [hfs]; rfl)
      · omega
  refine ⟨?_, hfin⟩
  rw [hB] at hfin ⊢
  exact g.other R C G' hfin (fun k hk' hne n hn => a2 k hk' n hn (.inl hne))

theorem Gn.eph (R : Rep O W φ) (C : Cu O W φ A (fun k => atB is k = true) ψ N) (hcl : Closed W.nd qw fun k => atB is k = true) (g : Gn W φ ψ is A B) {i : Int} (hi : atB is i = true) (hk : (W.th i).k = 4) :
    Gn W φ ψ is A (mGoneE1 B (ψ i)) ∧ FinF W ψ is (mGoneE1 B (ψ i)) i := by
  have hl := C.sl i hi
  have h2 := Wd.two R.hw hl (.inr (.inl hk))
  obtain ⟨v0, v1, hfs⟩ := list_two h2
  have ok0 := R.hw.tv i hl v0 (by rw [hfs]; simp)
  have ok1 := R.hw.tv i hl v1 (by rw [hfs]; simp)
  obtain ⟨k1, k2⟩ := g.key R C hi (.inr hk) hfs
  have hc := cutF_eq (W := W) hl.1 hi
  rw [hfs] at hc
  simp only [List.getD_cons_zero, List.getD_cons_succ] at hc
  have e0 : ψ i + 1 + ((0 : Nat) : Int) = ψ i + 1 := by omega
  have e1 : ψ i + 1 + ((1 : Nat) : Int) = ψ i + 2 := by omega
  obtain ⟨dd, hd⟩ : ∃ d, (!mAlive B (B.load (ψ i + 1))) = d := ⟨_, rfl⟩
  have hval : ∃ w0 w1, cutF W is i = [w0, w1] ∧ (if dd = true then 3 else mNow B (B.load (ψ i + 1))) = encV ψ w0 ∧ R64 (encV ψ w0) ∧ (if dd = true then 3 else mNow B (B.load (ψ i + 2))) = encV ψ w1 ∧ R64 (encV ψ w1) := by
    cases hs : inS is v0
    · rw [if_pos ⟨hk, hs⟩] at hc
      refine ⟨(2, 0), (2, 0), hc, ?_, by rw [enc_gone]; exact R64_three, ?_, by rw [enc_gone]; exact R64_three⟩
      · rcases k2 hs with ⟨_, h⟩ | h
        · rw [← hd, h, alive_three, now_three]; rfl
        · rw [← hd, h]; rfl
      · rcases k2 hs with ⟨hf, h⟩ | h
        · have := hf 1 (2, 0) (by rw [hc]; rfl)
          rw [e1, enc_gone] at this
          rw [← hd, h, alive_three, this, now_three]; rfl
        · rw [← hd, h]; rfl
    · rw [if_neg (fun h => by rw [hs] at h; cases h.2), if_neg (fun h => by omega)] at hc
      obtain ⟨h1, h3⟩ := k1 hs
      have hs1 : v1.1 = 3 → atB is v1.2 = true := fun h3 => hcl i v1.2 hi (.inr (.inr (.inl ⟨hk, by
        show (W.th i).fs[1]? = _
        rw [hfs]; show some v1 = _; congr 1; exact Prod.ext h3 rfl, fun v hv h => by
        have hv' : (W.th i).fs[0]? = some v := hv
        rw [hfs] at hv'
        have : v0 = v := by simpa using hv'
        subst this; exact inS_iff.1 hs h⟩)))
      have hw1 : Wrd φ ψ (fun k => atB is k = true) (B.load (ψ i + 2)) v1 := by
        rcases g.f i hi with h | ⟨h, _, _⟩ | ⟨_, h⟩
        · have := h 1 v1 (by rw [hc]; rfl)
          rw [e1] at this
          exact .inr ⟨hs1, this⟩
        · omega
        · have := h 1 v1 (by rw [hfs]; rfl); rwa [e1] at this
      refine ⟨v0, v1, hc, by rw [← hd, h1, h3]; rfl, C.encR R ok0 (inS_iff.1 hs), ?_, C.encR R ok1 hs1⟩
      rw [← hd, h1]
      show mNow B (B.load (ψ i + 2)) = _
      rw [g.G.now]; exact C.now R ok1 hw1 hs1
  obtain ⟨w0, w1, hcw, hv0, hR0, hv1, hR1⟩ := hval
  obtain ⟨G1, a1, a2⟩ := g.G.put R C hi (j := 0) (by omega) hR0
  have hld : (B.store (ψ i + 1 + ((0 : Nat) : Int)) (encV ψ w0)).load (ψ i + 2) = B.load (ψ i + 2) := by
    have := a2 i hi 1 (by omega) (.inr (by decide)); rwa [e1] at this
  obtain ⟨G2, b1, b2⟩ := G1.put R C hi (j := 1) (by omega) hR1
  have hB : mGoneE1 B (ψ i) = (B.store (ψ i + 1 + ((0 : Nat) : Int)) (encV ψ w0)).store (ψ i + 1 + ((1 : Nat) : Int)) (encV ψ w1) := by
    unfold mGoneE1
    rw [hd]
    have e2 : mFix B (ψ i + 1) dd = B.store (ψ i + 1 + ((0 : Nat) : Int)) (encV ψ w0) := by rw [e0]; unfold mFix; rw [hv0]
    rw [e2]
    unfold mFix
    rw [hld, e1, G1.now, ← g.G.now, hv1]
  have hfin : FinF W ψ is (mGoneE1 B (ψ i)) i := by
    rw [hB]
    intro j v hv'
    rw [hcw] at hv'
    match j, hv' with
    | 0, hv' => simp at hv'; subst hv'; rw [b2 i hi 0 (by omega) (.inr (by decide))]; exact a1
    | 1, hv' => simp at hv'; subst hv'; exact b1
  refine ⟨?_, hfin⟩
  rw [hB] at hfin ⊢
  refine g.other R C G2 hfin (fun k hk' hne n hn => ?_)
  rw [b2 k hk' n hn (.inl hne), a2 k hk' n hn (.inl hne)]

theorem Gn.weaks (R : Rep O W φ) (C : Cu O W φ A (fun k => atB is k = true) ψ N) : ∀ (l : List Int) {B : Ar}, Gn W φ ψ is A B → (∀ p ∈ l, ∃ i, atB is i = true ∧ (W.th i).k = 3 ∧ p = ψ i) →
    Gn W φ ψ is A (mGoneW B l) ∧ (∀ i, atB is i = true → FinF W ψ is B i → FinF W ψ is (mGoneW B l) i) ∧ ∀ i, atB is i = true → ψ i ∈ l → FinF W ψ is (mGoneW B l) i
  | [], B, g, _ => ⟨g, fun _ _ h => h, fun _ _ h => by cases h⟩
  | p :: l, B, g, hl => by
    obtain ⟨i, hi, hk, rfl⟩ := hl p (by simp)
    obtain ⟨g1, f1⟩ := g.weak R C hi hk
    obtain ⟨g2, f2, f3⟩ := Gn.weaks R C l g1 (fun p hp => hl p (by simp [hp]))
    have e : mGoneW B (ψ i :: l) = mGoneW (mFix B (ψ i + 1) (!mAlive B (B.load (ψ i + 1)))) l := rfl
    rw [e]
    have keep : ∀ k, atB is k = true → FinF W ψ is B k → FinF W ψ is (mFix B (ψ i + 1) (!mAlive B (B.load (ψ i + 1)))) k := fun k hk' hf => by
      by_cases ek : k = i
      · subst ek; exact f1
      · refine hf.congr (cutF_len R C hk') (fun n hn => ?_)
        unfold mFix
        have := C.apart R hk' hi ek
        have hn2 := Wd.two R.hw (C.sl i hi) (.inl hk)
        rw [Ar.load_store g.G.sm.ok, if_neg (fun h => by omega)]
    refine ⟨g2, fun k hk' hf => f2 k hk' (keep k hk' hf), fun k hk' hm => ?_⟩
    rcases List.mem_cons.1 hm with h | h
    · have := C.inj R hk' hi h
      subst this
      exact f2 k hk' f1
    · exact f3 k hk' h

theorem Gn.ephs (R : Rep O W φ) (C : Cu O W φ A (fun k => atB is k = true) ψ N) (hcl : Closed W.nd qw fun k => atB is k = true) : ∀ (l : List Int) {B : Ar}, Gn W φ ψ is A B → (∀ p ∈ l, ∃ i, atB is i = true ∧ (W.th i).k = 4 ∧ p = ψ i) →
    Gn W φ ψ is A (l.foldl mGoneE1 B) ∧ (∀ i, atB is i = true → FinF W ψ is B i → FinF W ψ is (l.foldl mGoneE1 B) i) ∧ ∀ i, atB is i = true → ψ i ∈ l → FinF W ψ is (l.foldl mGoneE1 B) i
  | [], B, g, _ => ⟨g, fun _ _ h => h, fun _ _ h => by cases h⟩
  | p :: l, B, g, hl => by
    obtain ⟨i, hi, hk, rfl⟩ := hl p (by simp)
    obtain ⟨g1, f1⟩ := g.eph R C hcl hi hk
    obtain ⟨g2, f2, f3⟩ := Gn.ephs R C hcl l g1 (fun p hp => hl p (by simp [hp]))
    have e : (ψ i :: l).foldl mGoneE1 B = l.foldl mGoneE1 (mGoneE1 B (ψ i)) := rfl
    rw [e]
    have keep : ∀ k, atB is k = true → FinF W ψ is B k → FinF W ψ is (mGoneE1 B (ψ i)) k := fun k hk' hf => by
      by_cases ek : k = i
      · subst ek; exact f1
      · refine hf.congr (cutF_len R C hk') (fun n hn => ?_)
        unfold mGoneE1 mFix
        have := C.apart R hk' hi ek
        have hn2 := Wd.two R.hw (C.sl i hi) (.inr (.inl hk))
        have hok1 : (B.store (ψ i + 1) (if (!mAlive B (B.load (ψ i + 1))) = true then 3 else mNow B (B.load (ψ i + 1)))).ok := by
          refine g.G.sm.ok.store _ _ ?_
          split
          · exact R64_three
          · exact mNow_R64 (g.G.sm.ok.load _)
        rw [Ar.load_store hok1, if_neg (fun h => by omega), Ar.load_store g.G.sm.ok, if_neg (fun h => by omega)]
    refine ⟨g2, fun k hk' hf => f2 k hk' (keep k hk' hf), fun k hk' hm => ?_⟩
    rcases List.mem_cons.1 hm with h | h
    · have := C.inj R hk' hi h
      subst this
      exact f2 k hk' f1
    · exact f3 k hk' h

/-- What is gone is told. -/
theorem Ps.gone (R : Rep O W φ) {rts : List Int} {t : Mt} {q : List (Int × Int)} (P : Ps O W φ rts t q is qw ψ N) : Gb ψ is t.1.A (mGone t.1) ∧ ∀ i, atB is i = true → FinF W ψ is (mGone t.1) i := by
  have C := P.H.C
  have start : Gn W φ ψ is t.1.A t.1.A ∧ ∀ i, atB is i = true → FinF W ψ is t.1.A i ∨ ((W.th i).k = 3 ∧ ψ i ∈ t.1.wk) ∨ ((W.th i).k = 4 ∧ ψ i ∈ t.1.ep) := by
    have main : ∀ i, atB is i = true → FinF W ψ is t.1.A i ∨ ((W.th i).k = 3 ∧ ψ i ∈ t.1.wk ∧ ∀ v, (W.th i).fs[1]? = some v → t.1.A.load (ψ i + 2) = encV ψ v) ∨ ((W.th i).k = 4 ∧ ψ i ∈ t.1.ep) := by
      intro i hi
      have hl := C.sl i hi
      have all : Looked W t.1 (fun k => atB is k = true) ψ i ∨ Clean W i := by
        cases ho : (W.th i).old
        · exact .inl (P.n.all R C P.c i ((C.nm i).2 ⟨hi, ho⟩))
        · exact P.n.old i hl ho
      rcases all with h | h
      · by_cases k3 : (W.th i).k = 3
        · refine .inr (.inl ⟨k3, (h.2.1 k3).1, fun v hv => ?_⟩)
          have := ((h.2.1 k3).2 v hv).2
          rwa [show ψ i + 1 + ((1 : Nat) : Int) = ψ i + 2 by omega] at this
        · by_cases k4 : (W.th i).k = 4
          · exact .inr (.inr ⟨k4, h.2.2 k4⟩)
          · left
            intro j v hv
            rw [cutF_eq hl.1 hi, if_neg (fun h => k4 h.1), if_neg (fun h => k3 h.1)] at hv
            by_cases k12 : (W.th i).k = 1 ∨ (W.th i).k = 2
            · exact (h.1 k12 j v hv).2
            · exfalso
              have hf := R.hw.tk i hl
              have hs := fitsW_spec hf
              have k5 : (W.th i).k = 5 := by omega
              rw [k5] at hf
              simp [fitsW] at hf
              have := (List.getElem?_eq_some_iff.1 hv).1
              simp [hf] at this
      · left
        intro j v hv
        have all : ∀ v ∈ (W.th i).fs, inS is v = true := fun v hv => inS_iff.2 fun h3 => C.so _ (Wd.okV_ref (R.hw.tv i hl v hv) h3) (h.2 v hv h3)
        have h0 : (W.th i).k = 3 ∨ (W.th i).k = 4 → inS is ((W.th i).fs.getD 0 (0, 0)) = true := fun hk => by
          obtain ⟨a, b, e⟩ := list_two (Wd.two R.hw hl (by rcases hk with h | h; exact .inl h; exact .inr (.inl h)))
          rw [e]; exact all a (by rw [e]; simp)
        rw [cutF_eq hl.1 hi, if_neg (fun h => by rw [h0 (.inr h.1)] at h; cases h.2), if_neg (fun h => by rw [h0 (.inl h.1)] at h; cases h.2)] at hv
        have hm := List.mem_of_getElem? hv
        rcases C.fd i hi j v hv with e | ⟨_, e⟩
        · rw [e]
          exact (encV_congr (fun h3 => C.po _ (Wd.okV_ref (R.hw.tv i hl v hm) h3) (h.2 v hm h3))).symm
        · exact e
    refine ⟨⟨⟨Sm.refl C.sm.ok, rfl, fun _ _ => rfl, fun _ _ => rfl⟩, fun i hi => ?_⟩, fun i hi => ?_⟩
    · rcases main i hi with h | ⟨h, _, h'⟩ | ⟨h, _⟩
      · exact .inl h
      · exact .inr (.inl ⟨h, C.fd i hi, h'⟩)
      · exact .inr (.inr ⟨h, C.fd i hi⟩)
    · rcases main i hi with h | ⟨h, h', _⟩ | h
      · exact .inl h
      · exact .inr (.inl ⟨h, h'⟩)
      · exact .inr (.inr h)
  obtain ⟨g0, f0⟩ := start
  obtain ⟨g1, f1, f2⟩ := g0.weaks R C t.1.wk P.H.wk
  obtain ⟨g2, f3, f4⟩ := g1.ephs R C P.shut t.1.ep P.H.ep
  refine ⟨g2.G, fun i hi => ?_⟩
  rcases f0 i hi with h | ⟨_, h⟩ | ⟨_, h⟩
  · exact f3 i hi (f1 i hi h)
  · exact f3 i hi (f2 i hi h)
  · exact f4 i hi h

end
end Go.Proofs.Ytjifdalflepcoac

namespace Go.Proofs.Ytjifdalflepcoac
set_option linter.unusedVariables false
set_option linter.unusedSimpArgs false

section
variable {O : Wo} {W : Wd} {φ ψ : Int → Int} {A B : Ar} {is : List Bool} {N : List Int} {qw : List (Int × Int)}

theorem sumL_le (h : W.ok) (hl : ∀ i, atB is i = true → W.live i) : sumL is W.T ≤ W.young + W.olds := by
  have e : sumL is W.T = ((((List.range W.T.length).map (Int.ofNat ·)).filter fun i => atB is i).map fun i => (W.th i).words).sum := by
    rw [sum_filter]
    unfold sumL
    congr 1
    apply List.ext_getElem
    · simp
    · intro k h1 h2
      simp only [List.length_mapIdx] at h1
      simp only [List.getElem_mapIdx, List.getElem_map, List.getElem_range]
      have e1 : W.th (Int.ofNat k) = W.T[k] := by
        unfold Wd.th
        rw [List.getD_eq_getElem?_getD, show (Int.ofNat k).toNat = k from rfl, List.getElem?_eq_getElem h1]; rfl
      have e2 : atB is (Int.ofNat k) = is.getD k false := atB_nat is k
      rw [e1, e2]
  have hnd : (((List.range W.T.length).map (Int.ofNat ·)).filter fun i => atB is i).Nodup := (nodup_range_int _).filter _
  have h1 := sum_sub (f := fun i => (W.th i).words) (fun i => by unfold Th.words; omega) hnd (m := W.idx false ++ W.idx true) (by
    intro i hi
    have hb := (List.mem_filter.1 hi).2
    have hlv := hl i (by simpa using hb)
    rw [List.mem_append]
    cases ho : (W.th i).old
    · exact .inl (Wd.mem_idx.2 ⟨hlv, ho⟩)
    · exact .inr (Wd.mem_idx.2 ⟨hlv, ho⟩))
  rw [List.map_append, List.sum_append, Wd.sum_idx, Wd.sum_idx] at h1
  have e1 : (sumW W.T fun t => !t.dead && (t.old == false)) = W.young := by unfold Wd.young; congr 1; funext t; cases t.old <;> rfl
  have e2 : (sumW W.T fun t => !t.dead && (t.old == true)) = W.olds := by unfold Wd.olds; congr 1; funext t; cases t.old <;> rfl
  rw [e1, e2] at h1
  rw [e]; exact h1

theorem clear_load (A : Ar) {q : Int} (h : A.old q = true) : A.clear.load q = A.load q := by
  have h1 : A.inUse q = true := by unfold Ar.inUse; rw [h]; simp
  have h2 : A.clear.inUse q = true := by
    unfold Ar.inUse
    rw [Bool.or_eq_true]; right
    exact h
  unfold Ar.load
  rw [if_pos h1, if_pos h2]; rfl

theorem Wd.cut_small (W : Wd) (h : ¬ W.young > W.grow - W.olds) (h2 : ¬ sumL (W.pass false).1 W.T > W.grow) : W.cut false = (0, W.after false) := by
  unfold Wd.cut
  rw [if_neg (fun h' => h h'.2), if_neg h2]

/-- A small cut, in a wood and a world. -/
theorem Rep.minor (R : Rep O W φ) : (mCut O).1 = (W.cut false).1 ∧ ∃ ψ, Rep (mCut O).2 (W.cut false).2 ψ := by
  have hsy := R.sy; have hso := R.so; have hnur := R.nur; have hlen := R.len
  by_cases hfull : (O.ar.yng : Int) > (O.ar.ws.length : Int) - O.ar.grn
  · have e1 : mCut O = (3, O) := by unfold mCut; rw [if_pos hfull]
    have e2 : W.cut false = (3, W) := by unfold Wd.cut; rw [if_pos ⟨rfl, by omega⟩]
    rw [e1, e2]
    exact ⟨rfl, φ, R⟩
  · have hr : (O.ar.yng : Int) ≤ (O.ar.ws.length : Int) - O.ar.grn := by omega
    obtain ⟨m, hfst, hcnt, hits⟩ := Wd.pass_mid R.hw false
    have hsum := sumL_le R.hw m.live
    have e2 : W.cut false = (0, W.after false) := W.cut_small (by omega) (by omega)
    have e1 : mCut O = (0, ⟨(mGone (mPass O).1.1).clear, O.cd.map fun _ => false, (mRoots O.ar O.rt).2, newRegs mtAlive mtNow (mPass O).1 (mPass O).2.2, newWait mtAlive mtNow (mPass O).1 (mPass O).2.1⟩) := by unfold mCut; rw [if_neg hfull]
    rw [e1, e2]
    obtain ⟨ψ, N, P, hI⟩ := R.passes hr
    obtain ⟨G, F⟩ := P.gone R
    have C := P.H.C
    refine ⟨rfl, ψ, ?_⟩
    have hokA := R.hw.after (major := false) (by omega)
    obtain ⟨B, hB⟩ : ∃ B, mGone (mPass O).1.1 = B := ⟨_, rfl⟩
    rw [hB] at G F ⊢
    have okB := G.sm.ok
    have lv : ∀ {i}, (W.after false).live i ↔ atB (W.pass false).1 i = true := Wd.after_live R.hw
    have tha : ∀ {i}, atB (W.pass false).1 i = true → (W.after false).th i = cutT (W.pass false).1 i.toNat (W.th i) := fun hi => Wd.th_after (m.live _ hi).1 (m.live _ hi).2.1
    have olda : ∀ {i}, atB (W.pass false).1 i = true → ((W.after false).th i).old = true := fun hi => by
      rw [tha hi, (cutT_live (by rw [atB_toNat (m.live _ hi).1]; exact hi)).2]
    have pl : ∀ {i}, atB (W.pass false).1 i = true → _ := fun {i} hi => C.place R (i := i) hi
    have oldB : ∀ {i}, atB (W.pass false).1 i = true → ∀ j : Int, 0 ≤ j → j ≤ (W.th i).fs.length → B.old (ψ i + j) = true := fun hi j h0 h1 => by
      have := C.inO R hi h0 h1
      unfold Ar.old at *; rw [G.sm.nur, G.grn]; exact this
    have thB : ∀ {i}, atB (W.pass false).1 i = true → B.clear.thing (ψ i) = ((W.th i).k, ((W.th i).fs.length : Int), 0) := fun {i} hi => by
      have h1 := oldB hi 0 (by omega) (by omega)
      rw [Int.add_zero] at h1
      rw [thing_of_load (clear_load B h1), G.hd i hi]
      exact C.th i hi
    have hgr : ((O.ar.grn : Nat) : Int) ≤ B.grn := by rw [G.grn]; exact Int.ofNat_le.2 C.sm.grn
    -- all that stands in the old space
    have tz : Tile B.clear (O.ar.things.2 ++ N.map ψ) B.clear.nur B.clear.grn := by
      refine Tile.app (b := O.ar.grn) ?_ ?_
      · have hn : B.clear.nur = O.ar.nur := (G.sm.nur).trans C.sm.nur
        rw [hn]
        refine Tile.congr (fun p hp => ?_) R.tz
        have := (R.perm_o.mem_iff (a := p)).1 hp
        obtain ⟨i, hi, rfl⟩ := List.mem_map.1 this
        obtain ⟨hl, ho⟩ := Wd.mem_idx.1 hi
        have hb := C.so i hl ho
        have := thB hb
        rw [C.po i hl ho] at this
        rw [this, R.th i hl]
      · have hg : B.clear.grn = (mPass O).1.1.A.grn := G.grn
        rw [hg]
        refine Tile.congr (fun p hp => ?_) C.tile
        obtain ⟨i, hi, rfl⟩ := List.mem_map.1 hp
        have hb := ((C.nm i).1 hi).1
        rw [thB hb, C.th i hb]
    have ty : Tile B.clear [] 0 B.clear.yng := rfl
    have hokC : B.clear.ok := okB.clear
    have hth := Tile.things hokC ty tz
    have itx : ∀ i ∈ (W.pass false).2.2, W.okE i.1 ∧ (i.2.1 = false → atB (W.pass false).1 i.1.2 = true) := by
      intro i hi
      have h1 : (i.1, i.2.1) ∈ (W.pass false).2.2.map (fun i => (i.1, i.2.1)) := List.mem_map.2 ⟨i, hi, rfl⟩
      rw [hits] at h1
      obtain ⟨e, he', e2⟩ := List.mem_map.1 h1
      have e3 : e = i.1 := congrArg (fun p : (Int × Int) × Bool => p.1) e2
      have e4 : (!atB (W.clo W.wait (W.first false)) e.2) = i.2.1 := congrArg (fun p : (Int × Int) × Bool => p.2) e2
      have hgv := R.hw.gv e he'
      rw [e3] at hgv e4
      exact ⟨hgv, fun hd => hfst _ (by rw [hd] at e4; simpa using e4)⟩
    have nowP : ∀ {x : Int} {y : Int}, atB (W.pass false).1 x = true → Wrd φ ψ (fun k => atB (W.pass false).1 k = true) y (3, x) → mtNow (mPass O).1 y = 4 * ψ x + 1 := fun {x y} hx hw => by
      have := C.now R (v := (3, x)) (.inr (.inr (.inr ⟨rfl, m.live x hx⟩))) hw (fun _ => hx)
      unfold mtNow
      rw [this, encV_ref ψ rfl]
    have hrg : newRegs mtAlive mtNow (mPass O).1 (mPass O).2.2 = (W.after false).regs.map (encE ψ) := by
      rw [hI]
      show newRegs mtAlive mtNow (mPass O).1 _ = (newRegs atB nowW (W.pass false).1 (W.pass false).2.2).map (encE ψ)
      generalize (W.pass false).2.2 = l at itx
      unfold newRegs
      induction l with
      | nil => rfl
      | cons i l ih =>
        have hi := itx i (by simp)
        have ih := ih (fun j hj => itx j (by simp [hj]))
        have ea : mtAlive (mPass O).1 (encI φ i).1.1 = atB (W.pass false).1 i.1.1 := by
          show mtAlive _ (encE φ i.1).1 = _
          rw [encE_eq]; exact P.alive R hi.1.1
        simp only [List.map_cons, List.filter_cons, ea]
        have e2 : (encI φ i).2 = i.2 := rfl
        rw [e2]
        by_cases hc : (!i.2.1 && atB (W.pass false).1 i.1.1) = true
        · rw [if_pos hc, if_pos hc]
          simp only [List.map_cons]
          simp only [Bool.and_eq_true, Bool.not_eq_true'] at hc
          have n1 := nowP hc.2 (y := (encI φ i).1.1) (.inl (by show (encE φ i.1).1 = _; rw [encE_eq]))
          have n2 := nowP (hi.2 hc.1) (y := (encI φ i).1.2) (.inl (by show (encE φ i.1).2 = _; rw [encE_eq]))
          rw [ih, n1, n2]; rfl
        · rw [if_neg hc, if_neg hc]; exact ih
    have hwt : newWait mtAlive mtNow (mPass O).1 (mPass O).2.1 = (W.after false).wait.map (encE ψ) := by
      show _ = (newWait atB nowW (W.pass false).1 (W.pass false).2.1).map (encE ψ)
      have hq := P.q
      have hok := P.ok
      have hsh : ∀ f ∈ (W.pass false).2.1, atB (W.pass false).1 f.1 = true → atB (W.pass false).1 f.2 = true := fun f hf h => P.shut f.1 f.2 h (.inr (.inr (.inr ⟨(hok f hf).2.1, hf⟩)))
      clear hcnt
      revert hq hok hsh
      generalize (mPass O).2.1 = l
      generalize (W.pass false).2.1 = mm
      unfold newWait
      induction l generalizing mm with
      | nil =>
        intro hq _ _
        cases mm with
        | nil => rfl
        | cons f mm => exact hq.elim
      | cons e l ih =>
        intro hq hok hsh
        cases mm with
        | nil => exact hq.elim
        | cons f mm =>
          have ih := ih mm hq.2 (fun g hg => hok g (by simp [hg])) (fun g hg => hsh g (by simp [hg]))
          have hf := hok f (by simp)
          have ea : mtAlive (mPass O).1 e.1 = atB (W.pass false).1 f.1 := by rw [hq.1.1]; exact P.alive R hf.1
          simp only [List.filter_cons, ea]
          by_cases hc : atB (W.pass false).1 f.1 = true
          · rw [if_pos hc, if_pos hc]
            simp only [List.map_cons]
            rw [ih, nowP hc (.inl hq.1.1), nowP (hsh f (by simp) hc) hq.1.2]; rfl
          · rw [if_neg hc, if_neg hc]; exact ih
    have hR64 : ∀ {i}, atB (W.pass false).1 i = true → R64 (4 * ψ i + 1) := fun hi => by
      have := pl hi
      have h3 := C.sm.ok.h3; have h4 := C.sm.ok.h4
      unfold R64; omega
    have hE64 : ∀ e, (W.after false).okE e → R64e (encE ψ e) := fun e he => ⟨hR64 (lv.1 he.1), hR64 (lv.1 he.2.2)⟩
    refine ⟨⟨hokC, ?_, fun x hx => ?_, fun e he => ?_, fun e he => ?_, ?_, by simpa using R.ho.hc⟩, hokA, by rw [hth]; exact ty, by rw [hth]; exact tz, fun i j hi hj e => C.inj R (lv.1 hi) (lv.1 hj) e, fun p hp => ?_, fun i hi ho => ?_, fun i hi ho => ?_, fun i hi => ?_, fun i hi j v hv => ?_,
      P.rw_, hrg, hwt, ?_, ?_, by rw [List.length_map]; exact R.cl, fun i hi ho v hv h3 hy => ?_⟩
    · show (mRoots O.ar O.rt).2.length = 12
      rw [P.rw_]; simpa using R.hw.hr
    · have hx' : x ∈ (mRoots O.ar O.rt).2 := hx
      rw [P.rw_] at hx'
      obtain ⟨v, hv, rfl⟩ := List.mem_map.1 hx'
      exact C.encR R (R.hw.rv v hv) (P.rt v hv)
    · have he' : e ∈ newRegs mtAlive mtNow (mPass O).1 (mPass O).2.2 := he
      rw [hrg] at he'
      obtain ⟨f, hf, rfl⟩ := List.mem_map.1 he'
      exact hE64 f (hokA.gv f hf)
    · have he' : e ∈ newWait mtAlive mtNow (mPass O).1 (mPass O).2.1 := he
      rw [hwt] at he'
      obtain ⟨f, hf, rfl⟩ := List.mem_map.1 he'
      exact hE64 f (hokA.wv f hf)
    · show (newRegs mtAlive mtNow (mPass O).1 (mPass O).2.2).length + (newWait mtAlive mtNow (mPass O).1 (mPass O).2.1).length ≤ 24
      rw [hrg, hwt, List.length_map, List.length_map]; exact hokA.hq
    · have hp' : p ∈ B.clear.things.1 ∨ p ∈ B.clear.things.2 := hp
      rw [hth] at hp'
      dsimp only at hp'
      rcases hp' with h | h
      · cases h
      · rcases List.mem_append.1 h with h | h
        · obtain ⟨i, hi, rfl⟩ := List.mem_map.1 ((R.perm_o.mem_iff (a := p)).1 h)
          obtain ⟨hl, ho⟩ := Wd.mem_idx.1 hi
          exact ⟨i, lv.2 (C.so i hl ho), C.po i hl ho⟩
        · obtain ⟨i, hi, rfl⟩ := List.mem_map.1 h
          exact ⟨i, lv.2 ((C.nm i).1 hi).1, rfl⟩
    · rw [olda (lv.1 hi)] at ho; cases ho
    · show ψ i ∈ B.clear.things.2
      rw [hth]
      have hb := lv.1 hi
      dsimp only
      rw [List.mem_append]
      cases ho' : (W.th i).old
      · exact .inr (List.mem_map.2 ⟨i, (C.nm i).2 ⟨hb, ho'⟩, rfl⟩)
      · left
        have hl := m.live i hb
        rw [C.po i hl ho']
        exact R.ino i hl ho'
    · have hb := lv.1 hi
      have hl := m.live i hb
      show B.clear.thing (ψ i) = _
      rw [thB hb, tha hb, cutT_kind, cutT_len (by rw [atB_toNat hl.1]; exact hb) (R.hw.tk i hl)]
    · have hb := lv.1 hi
      have hl := m.live i hb
      rw [tha hb] at hv
      show B.clear.load _ = _
      have hj : j < (W.th i).fs.length := by
        have := (List.getElem?_eq_some_iff.1 hv).1
        rwa [cutT_len (by rw [atB_toNat hl.1]; exact hb) (R.hw.tk i hl)] at this
      rw [clear_load B (by rw [Int.add_assoc]; exact oldB hb _ (by omega) (by omega))]
      exact F i hb j v hv
    · show (B.nur : Int) = W.most
      rw [G.sm.nur, C.sm.nur]; exact R.nur
    · show (B.ws.length : Int) = W.most + W.grow
      rw [G.sm.len, C.sm.len]; exact R.len
    · have hl3 : (W.after false).live v.2 := Wd.okV_ref (hokA.tv i hi v hv) h3
      rw [olda (lv.1 hl3)] at hy; cases hy

end
end Go.Proofs.Ytjifdalflepcoac

namespace Go.Proofs.Ytjifdalflepcoac
set_option linter.unusedVariables false
set_option linter.unusedSimpArgs false

/-- Marks of places; what is alive, and was not looked at yet; ephemerons that were. -/
structure Gs where
  lv : List Bool
  st : List Int
  ep : List Int

def jAlive (s : Gs) (x : Int) : Bool := !decide (x % 4 = 1) || atB s.lv (x / 4)
def jMark (s : Gs) (x : Int) : Gs := if jAlive s x = true then s else ⟨s.lv.set (x / 4).toNat true, s.st ++ [x / 4], s.ep⟩
def jMarks (s : Gs) (l : List Int) : Gs := l.foldl jMark s
def jLook (A : Ar) (s : Gs) (i : Int) : Gs :=
  if (A.thing i).1 = 1 ∨ (A.thing i).1 = 2 then jMarks s (A.fields i)
  else if (A.thing i).1 = 3 then jMark s (A.load (i + 2))
  else if (A.thing i).1 = 4 then { s with ep := s.ep ++ [i] }
  else s

def jPop (A : Ar) (s : Gs) : Gs := jLook A { s with st := s.st.dropLast } (s.st.getLastD 0)
def jPops (A : Ar) : Nat → Gs → Gs
  | 0, s => s
  | n + 1, s => if s.st = [] then s else jPops A n (jPop A s)

def jEph1 (A : Ar) (s : Gs) (i : Int) : Gs := if jAlive s (A.load (i + 1)) = true then jMark s (A.load (i + 2)) else s
def jEph (A : Ar) (s : Gs) (l : List Int) : Gs := l.foldl (jEph1 A) s
def jKp (s : Gs) (x : Int) : Gs × Int := (jMark s x, x)
def jRound (A : Ar) (q : List (Int × Int)) (s : Gs) : Gs := (wakeM jAlive jKp (jEph A (jPops A 2000 s) (jPops A 2000 s).ep) q).1
def jDrain (A : Ar) (q : List (Int × Int)) : Nat → Gs → Gs
  | 0, s => s
  | n + 1, s => if (jRound A q s).st = [] then jRound A q s else jDrain A q n (jRound A q s)
def jKeep (A : Ar) (s : Gs) (q : List (Int × Int)) (x : Int) : Gs × List (Int × Int) × Int := (jDrain A q 2000 (jMark s x), q, x)

/-- Ahead of Settle. -/
def jPre (O : Wo) : Gs := jDrain O.ar O.wt 2000 (jMarks ⟨List.replicate O.ar.ws.length false, [], []⟩ O.rt)
/-- Behind Settle. -/
def jPass (O : Wo) : Gs × List (Int × Int) × List It := passM jAlive (jKeep O.ar) (jPre O) O.rg O.wt

def sameW (s : Gs) (x : Int) : Int := x

/-- Where what is alive comes to; how many words. -/
def jPlan (A : Ar) (lv : List Bool) (base : Int) : List Int → List Int × Int → List Int × Int
  | [], t => t
  | i :: l, t => jPlan A lv base l (if atB lv i = true then (t.1.set i.toNat (base + t.2), t.2 + (1 + (A.thing i).2.1)) else t)

def jNow (f : List Int) (x : Int) : Int := if x % 4 = 1 then refW (f.getD (x / 4).toNat 0) else x

def jTurn1 (s : Gs) (f : List Int) (b : Bool) (A : Ar) (i : Int) : Ar := A.store i (if (b || !jAlive s (A.load i)) = true then 3 else jNow f (A.load i))
def jTurnN (s : Gs) (f : List Int) (b : Bool) : Nat → Ar → Int → Ar
  | 0, A, _ => A
  | n + 1, A, i => jTurnN s f b n (jTurn1 s f b A i) (i + 1)
def jTurn (s : Gs) (f : List Int) (A : Ar) (i : Int) : Ar := jTurnN s f (decide ((A.thing i).1 = 4) && !jAlive s (A.load (i + 1))) (A.thing i).2.1.toNat A (i + 1)
def jSlide1 (f : List Int) (A : Ar) (i : Int) : Ar :=
  { A with ws := lay A.ws (f.getD i.toNat 0).toNat ((A.ws.drop i.toNat).take (1 + (A.thing i).2.1).toNat) }

/-- What is alive, in the order in which it is slid together. -/
def jAll (O : Wo) : List Int := O.ar.things.2 ++ O.ar.things.1
def jThings (O : Wo) : List Int := (jAll O).filter fun i => atB (jPass O).1.lv i
def jPl (O : Wo) : List Int × Int := jPlan O.ar (jPass O).1.lv O.ar.nur (jAll O) (List.replicate O.ar.ws.length 0, 0)
def jNowE (f : List Int) (e : Int × Int) : Int × Int := (jNow f e.1, jNow f e.2)
def jTurned (O : Wo) : Ar := (jThings O).foldl (jTurn (jPass O).1 (jPl O).1) O.ar
def jSlid (O : Wo) : Ar := (jThings O).foldl (jSlide1 (jPl O).1) (jTurned O)

def jCut (O : Wo) : Int × Wo :=
  if (jPl O).2 > ((O.ar.grn : Int) - O.ar.nur) + ((O.ar.ws.length : Int) - O.ar.grn) then (3, O)
  else (0, ⟨((jSlid O).cut (jPl O).2.toNat).clear, O.cd.map fun _ => false, O.rt.map (jNow (jPl O).1),
    (newRegs jAlive sameW (jPass O).1 (jPass O).2.2).map (jNowE (jPl O).1), (newWait jAlive sameW (jPass O).1 (jPass O).2.1).map (jNowE (jPl O).1)⟩)

/-! How much is not looked at yet. -/

def fals (l : List Bool) : Nat := (l.filter fun b => !b).length

theorem fals_set : ∀ {l : List Bool} {i : Nat}, i < l.length → l.getD i false = false → fals (l.set i true) + 1 = fals l
  | [], i, h, _ => by simp at h
  | b :: l, 0, _, h => by
    have hb : b = false := by simpa using h
    subst hb; simp [fals]
  | b :: l, i + 1, h, hv => by
    have := fals_set (l := l) (i := i) (by simpa using h) (by simpa using hv)
    unfold fals at *
    rw [List.set_cons_succ]
    cases b <;> simp [List.filter_cons] <;> omega

theorem fals_le (l : List Bool) : fals l ≤ l.length := List.length_filter_le _ _

def jM (s : Gs) : Nat := s.st.length + fals s.lv

/-! What is marked. -/

/-- It was looked at. -/
def LkJ (W : Wd) (φ : Int → Int) (s : Gs) (S : Int → Prop) (i : Int) : Prop :=
  (((W.th i).k = 1 ∨ (W.th i).k = 2) → ∀ v ∈ (W.th i).fs, v.1 = 3 → S v.2) ∧ ((W.th i).k = 3 → ∀ v, (W.th i).fs[1]? = some v → v.1 = 3 → S v.2) ∧ ((W.th i).k = 4 → φ i ∈ s.ep)

/-- S is marked; all but Ex and what is on the stack was looked at. -/
structure Mk (O : Wo) (W : Wd) (φ : Int → Int) (Al Ex : Int → Prop) (s : Gs) (S : Int → Prop) : Prop where
  len : s.lv.length = O.ar.ws.length
  at_ : ∀ p, atB s.lv p = true ↔ ∃ i, S i ∧ φ i = p
  sl : ∀ i, S i → W.live i
  al : ∀ i, S i → Al i
  st : ∀ p ∈ s.st, ∃ i, S i ∧ φ i = p
  ep : ∀ p ∈ s.ep, ∃ i, S i ∧ (W.th i).k = 4 ∧ φ i = p
  done : ∀ i, S i → Ex i ∨ φ i ∈ s.st ∨ LkJ W φ s S i

section
variable {O : Wo} {W : Wd} {φ : Int → Int} {s s' : Gs} {S S' Al Ex : Int → Prop} {qw : List (Int × Int)}

theorem Mk.alive (R : Rep O W φ) (M : Mk O W φ Al Ex s S) {v : Vl} (hv : W.okV v) : jAlive s (encV φ v) = true ↔ (v.1 = 3 → S v.2) := by
  unfold jAlive
  by_cases h3 : v.1 = 3
  · have hl := Wd.okV_ref hv h3
    rw [encV_ref φ h3, show (4 * φ v.2 + 1) % 4 = 1 by omega, show (4 * φ v.2 + 1) / 4 = φ v.2 by omega]
    simp only [decide_true, Bool.not_true, Bool.false_or]
    rw [M.at_]
    constructor
    · rintro ⟨i, hi, e⟩ _
      rw [← R.inj i v.2 (M.sl i hi) hl e]; exact hi
    · intro h; exact ⟨_, h h3, rfl⟩
  · have : ¬ encV φ v % 4 = 1 := fun h => h3 ((encV_mod hv).1 h)
    simp [this, h3]

theorem Mk.eq (M : Mk O W φ Al Ex s S) (h : ∀ k, S k ↔ S' k) : Mk O W φ Al Ex s S' := by
  have e : S = S' := funext fun k => propext (h k)
  rw [← e]; exact M

/-- How a state grows. -/
structure MX (s : Gs) (S : Int → Prop) (s' : Gs) (S' : Int → Prop) : Prop where
  sub : ∀ k, S k → S' k
  ep : ∀ p ∈ s.ep, p ∈ s'.ep
  m : jM s' = jM s
  f : fals s'.lv ≤ fals s.lv

theorem MX.refl : MX s S s S := ⟨fun _ h => h, fun _ h => h, rfl, Nat.le_refl _⟩
theorem MX.trans {s2 : Gs} {S2 : Int → Prop} (h : MX s S s' S') (k : MX s' S' s2 S2) : MX s S s2 S2 :=
  ⟨fun i hi => k.sub i (h.sub i hi), fun p hp => k.ep p (h.ep p hp), k.m.trans h.m, Nat.le_trans k.f h.f⟩

theorem Mk.mark (R : Rep O W φ) (M : Mk O W φ Al Ex s S) {v : Vl} (hv : W.okV v) (ha : v.1 = 3 → Al v.2) :
    Mk O W φ Al Ex (jMark s (encV φ v)) (fun k => S k ∨ (v.1 = 3 ∧ k = v.2)) ∧ MX s S (jMark s (encV φ v)) (fun k => S k ∨ (v.1 = 3 ∧ k = v.2)) ∧ (jMark s (encV φ v)).ep = s.ep ∧
      ((∀ p ∈ s.st, p ∈ (jMark s (encV φ v)).st) ∧ ∀ p ∈ (jMark s (encV φ v)).st, p ∈ s.st ∨ ∃ k, ¬ S k ∧ v.1 = 3 ∧ k = v.2) := by
  by_cases hc : jAlive s (encV φ v) = true
  · have e : jMark s (encV φ v) = s := if_pos hc
    have h := (M.alive R hv).1 hc
    rw [e]
    refine ⟨M.eq (fun k => ⟨.inl, ?_⟩), ⟨fun k h => .inl h, fun _ h => h, rfl, Nat.le_refl _⟩, rfl, fun _ h => h, fun _ h => .inl h⟩
    rintro (h' | ⟨h', rfl⟩)
    · exact h'
    · exact h h'
  · have hn : ¬ (v.1 = 3 → S v.2) := fun h => hc ((M.alive R hv).2 h)
    have h3 : v.1 = 3 := Decidable.byContradiction fun h => hn (fun h' => (h h').elim)
    have hs : ¬ S v.2 := fun h => hn (fun _ => h)
    have hl := Wd.okV_ref hv h3
    have e : jMark s (encV φ v) = ⟨s.lv.set (φ v.2).toNat true, s.st ++ [φ v.2], s.ep⟩ := by
      unfold jMark
      rw [if_neg hc, encV_ref φ h3, show (4 * φ v.2 + 1) / 4 = φ v.2 by omega]
    have hp := R.place hl
    have hset : ∀ p, atB (s.lv.set (φ v.2).toNat true) p = true ↔ p = φ v.2 ∨ atB s.lv p = true := fun p => atB_set hp.1 (by rw [M.len]; exact hp.2.2)
    have hold : s.lv.getD (φ v.2).toNat false = false := by
      cases h : s.lv.getD (φ v.2).toNat false
      · rfl
      · rw [atB_toNat hp.1] at h
        obtain ⟨i, hi, e⟩ := (M.at_ _).1 h
        rw [R.inj i v.2 (M.sl i hi) hl e] at hi
        exact (hs hi).elim
    rw [e]
    refine ⟨⟨by simpa using M.len, fun p => ?_, fun i hi => ?_, fun i hi => ?_, fun p hp => ?_, fun p hp => ?_, fun i hi => ?_⟩, ⟨fun k h => .inl h, fun _ h => h, ?_, ?_⟩, rfl, fun p hp => by simp [hp], fun p hp => ?_⟩
    · dsimp only
      rw [hset, M.at_]
      constructor
      · rintro (h | ⟨i, hi, e⟩)
        · exact ⟨v.2, .inr ⟨h3, rfl⟩, h.symm⟩
        · exact ⟨i, .inl hi, e⟩
      · rintro ⟨i, hi | ⟨_, rfl⟩, e⟩
        · exact .inr ⟨i, hi, e⟩
        · exact .inl e.symm
    · rcases hi with h | ⟨_, rfl⟩
      · exact M.sl i h
      · exact hl
    · rcases hi with h | ⟨h, rfl⟩
      · exact M.al i h
      · exact ha h
    · rcases List.mem_append.1 hp with h | h
      · obtain ⟨i, hi, e⟩ := M.st p h
        exact ⟨i, .inl hi, e⟩
      · rw [List.mem_singleton.1 h]; exact ⟨v.2, .inr ⟨h3, rfl⟩, rfl⟩
    · obtain ⟨i, hi, e⟩ := M.ep p hp
      exact ⟨i, .inl hi, e⟩
    · rcases hi with h | ⟨_, rfl⟩
      · rcases M.done i h with h1 | h1 | h1
        · exact .inl h1
        · exact .inr (.inl (by simp [h1]))
        · exact .inr (.inr ⟨fun hk v hv h3 => .inl (h1.1 hk v hv h3), fun hk v hv h3 => .inl (h1.2.1 hk v hv h3), h1.2.2⟩)
      · exact .inr (.inl (by simp))
    · have := fals_set (l := s.lv) (i := (φ v.2).toNat) (by rw [M.len]; omega) hold
      simp only [jM, List.length_append, List.length_cons, List.length_nil]; omega
    · have := fals_set (l := s.lv) (i := (φ v.2).toNat) (by rw [M.len]; omega) hold
      dsimp only; omega
    · rcases List.mem_append.1 hp with h | h
      · exact .inl h
      · exact .inr ⟨v.2, hs, h3, rfl⟩

theorem Mk.marks (R : Rep O W φ) : ∀ (l : List Vl) {s : Gs} {S : Int → Prop}, Mk O W φ Al Ex s S → (∀ v ∈ l, W.okV v ∧ (v.1 = 3 → Al v.2)) →
    ∃ S', Mk O W φ Al Ex (jMarks s (l.map (encV φ))) S' ∧ MX s S (jMarks s (l.map (encV φ))) S' ∧ (jMarks s (l.map (encV φ))).ep = s.ep ∧ (∀ v ∈ l, v.1 = 3 → S' v.2) ∧ ∀ k, S' k → S k ∨ ((3, k) : Vl) ∈ l
  | [], s, S, M, _ => ⟨S, M, MX.refl, rfl, by simp, fun k h => .inl h⟩
  | v :: l, s, S, M, hl => by
    have hv := hl v (by simp)
    obtain ⟨M1, X1, e1, _, _⟩ := M.mark R hv.1 hv.2
    obtain ⟨S2, M2, X2, e2, k2, b2⟩ := Mk.marks R l M1 (fun u hu => hl u (by simp [hu]))
    have e : jMarks s ((v :: l).map (encV φ)) = jMarks (jMark s (encV φ v)) (l.map (encV φ)) := rfl
    rw [e]
    refine ⟨S2, M2, X1.trans X2, e2.trans e1, fun u hu h3 => ?_, fun k hk => ?_⟩
    · rcases List.mem_cons.1 hu with rfl | hu
      · exact X2.sub _ (.inr ⟨h3, rfl⟩)
      · exact k2 u hu h3
    · rcases b2 k hk with (h | ⟨h, rfl⟩) | h
      · exact .inl h
      · exact .inr (by rw [← h]; simp)
      · exact .inr (by simp [h])

theorem LkJ.mono {i : Int} (h : LkJ W φ s S i) (hS : ∀ k, S k → S' k) (he : ∀ p ∈ s.ep, p ∈ s'.ep) : LkJ W φ s' S' i :=
  ⟨fun hk v hv h3 => hS _ (h.1 hk v hv h3), fun hk v hv h3 => hS _ (h.2.1 hk v hv h3), fun hk => he _ (h.2.2 hk)⟩

theorem getLastD_mem {l : List Int} (h : l ≠ []) : l.getLastD 0 ∈ l ∧ l = l.dropLast ++ [l.getLastD 0] := by
  have e : l.getLastD 0 = l.getLast h := by
    cases l with
    | nil => exact (h rfl).elim
    | cons a l => rw [List.getLastD_cons, List.getLast_eq_getLastD]
  rw [e]
  exact ⟨List.getLast_mem h, (List.dropLast_concat_getLast h).symm⟩

/-- What is looked at, next. -/
theorem Mk.pop (R : Rep O W φ) (hal : Closed W.nd qw Al) (M : Mk O W φ Al Ex s S) (hne : s.st ≠ []) :
    ∃ S', Mk O W φ Al Ex (jPop O.ar s) S' ∧ (∀ k, S k → S' k) ∧ (∀ p ∈ s.ep, p ∈ (jPop O.ar s).ep) ∧ jM (jPop O.ar s) + 1 = jM s ∧ fals (jPop O.ar s).lv ≤ fals s.lv := by
  obtain ⟨hm, he⟩ := getLastD_mem hne
  obtain ⟨i, hi, hp⟩ := M.st _ hm
  have hl := M.sl i hi
  have hth := R.th i hl
  have hmm : jM { s with st := s.st.dropLast } + 1 = jM s := by
    unfold jM
    dsimp only
    rw [List.length_dropLast]
    have : 0 < s.st.length := List.length_pos_iff.2 hne
    omega
  have M0 : Mk O W φ Al (fun k => Ex k ∨ k = i) { s with st := s.st.dropLast } S := ⟨M.len, M.at_, M.sl, M.al, fun p hp => M.st p (by rw [he]; simp [show p ∈ s.st.dropLast from hp]), M.ep, fun k hk => by
    rcases M.done k hk with h | h | h
    · exact .inl (.inl h)
    · by_cases ek : k = i
      · exact .inl (.inr ek)
      · rw [he] at h
        rcases List.mem_append.1 h with h | h
        · exact .inr (.inl h)
        · exact (ek (R.inj k i (M.sl k hk) hl (by rw [List.mem_singleton.1 h, ← hp]))).elim
    · exact .inr (.inr h)⟩
  generalize hs0 : ({ s with st := s.st.dropLast } : Gs) = s0 at *
  have hep : s0.ep = s.ep := by rw [← hs0]
  have hlv : s0.lv = s.lv := by rw [← hs0]
  -- what is still to be said of i
  have fin : ∀ {t : Gs} {T : Int → Prop}, Mk O W φ Al (fun k => Ex k ∨ k = i) t T → LkJ W φ t T i → Mk O W φ Al Ex t T := fun {t T} M1 hL =>
    ⟨M1.len, M1.at_, M1.sl, M1.al, M1.st, M1.ep, fun k hk => by
      rcases M1.done k hk with (h | rfl) | h
      · exact .inl h
      · exact .inr (.inr hL)
      · exact .inr h⟩
  have okf : ∀ v ∈ (W.th i).fs, W.okV v := fun v hv => R.hw.tv i hl v hv
  unfold jPop
  rw [hs0, ← hp]
  unfold jLook
  rw [hth]
  dsimp only
  by_cases k12 : (W.th i).k = 1 ∨ (W.th i).k = 2
  · rw [if_pos k12, R.fields hl]
    obtain ⟨S1, M1, X1, e1, k1, b1⟩ := Mk.marks R (W.th i).fs M0 (fun v hv => ⟨okf v hv, fun h3 => hal i _ (M.al i hi) (.inl ⟨k12, by show ((3, v.2) : Vl) ∈ (W.th i).fs; rw [← h3]; exact hv⟩)⟩)
    refine ⟨S1, fin M1 ⟨fun _ => k1, fun h => by omega, fun h => by omega⟩, X1.sub, fun p hp => by rw [e1, hep]; exact hp, by rw [X1.m]; exact hmm, by rw [← hlv]; exact X1.f⟩
  · rw [if_neg k12]
    by_cases k3 : (W.th i).k = 3
    · rw [if_pos k3]
      have h2 := Wd.two R.hw hl (.inl k3)
      have hj : (W.th i).fs[1]? = some (W.th i).fs[1] := List.getElem?_eq_getElem (by omega)
      have hld := R.fl i hl 1 _ hj
      rw [show φ i + 1 + ((1 : Nat) : Int) = φ i + 2 by omega] at hld
      rw [hld]
      obtain ⟨M1, X1, e1, _⟩ := M0.mark R (okf _ (List.mem_of_getElem? hj)) (fun h3 => hal i _ (M.al i hi) (.inr (.inl ⟨k3, by
        show (W.th i).fs[1]? = _
        rw [hj]; congr 1; exact Prod.ext h3 rfl⟩)))
      refine ⟨_, fin M1 ⟨fun h => (k12 h).elim, fun _ v hv h3 => ?_, fun h => by omega⟩, X1.sub, fun p hp => by rw [e1, hep]; exact hp, by rw [X1.m]; exact hmm, by rw [← hlv]; exact X1.f⟩
      rw [hj] at hv; cases hv
      exact .inr ⟨h3, rfl⟩
    · rw [if_neg k3]
      by_cases k4 : (W.th i).k = 4
      · rw [if_pos k4]
        have M1 : Mk O W φ Al (fun k => Ex k ∨ k = i) { s0 with ep := s0.ep ++ [φ i] } S := ⟨M0.len, M0.at_, M0.sl, M0.al, M0.st, fun p hp => by
          rcases List.mem_append.1 hp with h | h
          · exact M0.ep p h
          · rw [List.mem_singleton.1 h]; exact ⟨i, hi, k4, rfl⟩, fun k hk => by
          rcases M0.done k hk with h | h | h
          · exact .inl h
          · exact .inr (.inl h)
          · exact .inr (.inr (h.mono (fun _ h => h) (fun p hp => by simp [hp])))⟩
        exact ⟨S, fin M1 ⟨fun h => (k12 h).elim, fun h => (k3 h).elim, fun _ => by simp⟩, fun _ h => h, fun p hp => by rw [← hep] at hp; simp [hp], hmm, by rw [← hlv]; exact Nat.le_refl _⟩
      · rw [if_neg k4]
        exact ⟨S, fin M0 ⟨fun h => (k12 h).elim, fun h => (k3 h).elim, fun h => (k4 h).elim⟩, fun _ h => h, fun p hp => by rw [hep]; exact hp, hmm, by rw [← hlv]; exact Nat.le_refl _⟩

theorem Mk.pops (R : Rep O W φ) (hal : Closed W.nd qw Al) : ∀ (n : Nat) {s : Gs} {S : Int → Prop}, Mk O W φ Al Ex s S → jM s < n →
    ∃ S', Mk O W φ Al Ex (jPops O.ar n s) S' ∧ (∀ k, S k → S' k) ∧ (∀ p ∈ s.ep, p ∈ (jPops O.ar n s).ep) ∧ (jPops O.ar n s).st = [] ∧ fals (jPops O.ar n s).lv ≤ fals s.lv
  | 0, s, S, M, hn => by omega
  | n + 1, s, S, M, hn => by
    unfold jPops
    by_cases hne : s.st = []
    · rw [if_pos hne]
      exact ⟨S, M, fun _ h => h, fun _ h => h, hne, Nat.le_refl _⟩
    · rw [if_neg hne]
      obtain ⟨S1, M1, s1, e1, m1, f1⟩ := M.pop R hal hne
      obtain ⟨S2, M2, s2, e2, t2, f2⟩ := Mk.pops R hal n M1 (by omega)
      exact ⟨S2, M2, fun k hk => s2 k (s1 k hk), fun p hp => e2 p (e1 p hp), t2, by omega⟩

theorem Mk.ephs (R : Rep O W φ) (hal : Closed W.nd qw Al) : ∀ (l : List Int) {s : Gs} {S : Int → Prop}, Mk O W φ Al Ex s S → (∀ p ∈ l, ∃ i, S i ∧ (W.th i).k = 4 ∧ φ i = p) →
    ∃ S', Mk O W φ Al Ex (jEph O.ar s l) S' ∧ MX s S (jEph O.ar s l) S' ∧ (jEph O.ar s l).ep = s.ep ∧
      ∀ i, S i → (W.th i).k = 4 → φ i ∈ l → (∀ v, (W.th i).fs[0]? = some v → v.1 = 3 → S v.2) → ∀ v, (W.th i).fs[1]? = some v → v.1 = 3 → S' v.2
  | [], s, S, M, hl => ⟨S, M, MX.refl, rfl, fun i _ _ h => by cases h⟩
  | p :: l, s, S, M, hl => by
    obtain ⟨i, hi, k4, rfl⟩ := hl p (by simp)
    have hli := M.sl i hi
    have h2 := Wd.two R.hw hli (.inr (.inl k4))
    have hj0 : (W.th i).fs[0]? = some (W.th i).fs[0] := List.getElem?_eq_getElem (by omega)
    have hj1 : (W.th i).fs[1]? = some (W.th i).fs[1] := List.getElem?_eq_getElem (by omega)
    have ok0 := R.hw.tv i hli _ (List.mem_of_getElem? hj0)
    have ok1 := R.hw.tv i hli _ (List.mem_of_getElem? hj1)
    have l0 := R.fl i hli 0 _ hj0
    have l1 := R.fl i hli 1 _ hj1
    rw [show φ i + 1 + ((0 : Nat) : Int) = φ i + 1 by omega] at l0
    rw [show φ i + 1 + ((1 : Nat) : Int) = φ i + 2 by omega] at l1
    have step : ∃ S1, Mk O W φ Al Ex (jEph1 O.ar s (φ i)) S1 ∧ MX s S (jEph1 O.ar s (φ i)) S1 ∧ (jEph1 O.ar s (φ i)).ep = s.ep ∧ ((∀ v, (W.th i).fs[0]? = some v → v.1 = 3 → S v.2) → ∀ v, (W.th i).fs[1]? = some v → v.1 = 3 → S1 v.2) := by
      unfold jEph1
      rw [l0, l1]
      have ha := M.alive R ok0
      by_cases hm : jAlive s (encV φ (W.th i).fs[0]) = true
      · rw [if_pos hm]
        obtain ⟨M1, X1, e1, _⟩ := M.mark R ok1 (fun h3 => hal i _ (M.al i hi) (.inr (.inr (.inl ⟨k4, by
          show (W.th i).fs[1]? = _
          rw [hj1]; congr 1; exact Prod.ext h3 rfl, fun v hv h5 => by
          have hv' : (W.th i).fs[0]? = some v := hv
          rw [hj0] at hv'; cases hv'
          exact M.al _ (ha.1 hm h5)⟩))))
        exact ⟨_, M1, X1, e1, fun _ v hv h3 => by rw [hj1] at hv; cases hv; exact .inr ⟨h3, rfl⟩⟩
      · rw [if_neg hm]
        exact ⟨S, M, MX.refl, rfl, fun h => (hm (ha.2 (fun h3 => h _ hj0 h3))).elim⟩
    obtain ⟨S1, M1, X1, e1, k1⟩ := step
    obtain ⟨S2, M2, X2, e2, k2⟩ := Mk.ephs R hal l M1 (fun p hp => by
      obtain ⟨k, h3, h4, h5⟩ := hl p (by simp [hp])
      exact ⟨k, X1.sub k h3, h4, h5⟩)
    have e : jEph O.ar s (φ i :: l) = jEph O.ar (jEph1 O.ar s (φ i)) l := rfl
    rw [e]
    refine ⟨S2, M2, X1.trans X2, e2.trans e1, fun k hk k4' hkl hkey v hv h3 => ?_⟩
    rcases List.mem_cons.1 hkl with h | h
    · have := R.inj k i (M.sl k hk) hli h
      subst this
      exact X2.sub _ (k1 hkey v hv h3)
    · exact k2 k (X1.sub k hk) k4' h (fun v hv h3 => X1.sub _ (hkey v hv h3)) v hv h3

theorem Mk.wake (R : Rep O W φ) (hal : Closed W.nd qw Al) (hqw : ∀ e ∈ qw, W.okE e) : ∀ (m : List (Int × Int)) {s : Gs} {S : Int → Prop}, Mk O W φ Al Ex s S → (∀ f ∈ m, f ∈ qw) →
    ∃ S', Mk O W φ Al Ex (wakeM jAlive jKp s (m.map (encE φ))).1 S' ∧ MX s S (wakeM jAlive jKp s (m.map (encE φ))).1 S' ∧ ∀ f ∈ m, S f.1 → S' f.2
  | [], s, S, M, hm => ⟨S, M, MX.refl, fun f h => by cases h⟩
  | f :: m, s, S, M, hm => by
    have hf := hqw f (hm f (by simp))
    have okg : W.okV (3, f.1) := .inr (.inr (.inr ⟨rfl, hf.1⟩))
    have okt : W.okV (3, f.2) := .inr (.inr (.inr ⟨rfl, hf.2.2⟩))
    have ag := M.alive R okg
    have at_ := M.alive R okt
    simp only [forall_const] at ag at_
    rw [List.map_cons]
    unfold wakeM
    rw [encE_eq]
    dsimp only
    by_cases hc : (jAlive s (encV φ (3, f.1)) && !jAlive s (encV φ (3, f.2))) = true
    · rw [if_pos hc]
      rw [Bool.and_eq_true] at hc
      have hg := ag.1 hc.1
      obtain ⟨M1, X1, e1, _⟩ := M.mark R okt (fun _ => hal f.1 _ (M.al _ hg) (.inr (.inr (.inr ⟨hf.2.1, by show (f.1, f.2) ∈ qw; exact hm f (by simp)⟩))))
      obtain ⟨S2, M2, X2, k2⟩ := Mk.wake R hal hqw m M1 (fun f hf => hm f (by simp [hf]))
      refine ⟨S2, M2, X1.trans X2, fun f' hf' hs => ?_⟩
      rcases List.mem_cons.1 hf' with rfl | h
      · exact X2.sub _ (.inr ⟨rfl, rfl⟩)
      · exact k2 f' h (X1.sub _ hs)
    · rw [if_neg hc]
      obtain ⟨S2, M2, X2, k2⟩ := Mk.wake R hal hqw m M (fun f hf => hm f (by simp [hf]))
      refine ⟨S2, M2, X2, fun f' hf' hs => ?_⟩
      rcases List.mem_cons.1 hf' with rfl | h
      · have h1 := ag.2 hs
        rw [h1] at hc
        simp at hc
        exact X2.sub _ (at_.1 hc)
      · exact k2 f' h hs

theorem fals_mono : ∀ {l m : List Bool}, l.length = m.length → (∀ i, l.getD i false = true → m.getD i false = true) → fals m ≤ fals l ∧ (fals m = fals l → m = l)
  | [], [], _, _ => ⟨Nat.le_refl _, fun _ => rfl⟩
  | a :: l, b :: m, hl, h => by
    have ih := fals_mono (l := l) (m := m) (by simpa using hl) (fun i hi => by have := h (i + 1); simpa using this (by simpa using hi))
    have h0 := h 0
    simp only [List.getD_cons_zero] at h0
    unfold fals at *
    cases a <;> cases b <;> simp [List.filter_cons] at * <;> first | exact ih | (refine ⟨by omega, fun h => by omega⟩)
  | [], b :: m, hl, _ => by simp at hl
  | a :: l, [], hl, _ => by simp at hl

/-- No more than there was is left: nothing came. -/
theorem Mk.same (R : Rep O W φ) (M : Mk O W φ Al Ex s S) (M' : Mk O W φ Al Ex s' S') (X : MX s S s' S') (h1 : s.st = []) (h2 : s'.st = []) : ∀ k, S' k → S k := by
  have hm := X.m
  unfold jM at hm
  rw [h1, h2] at hm
  simp only [List.length_nil, Nat.zero_add] at hm
  have e := (fals_mono (l := s.lv) (m := s'.lv) (M.len.trans M'.len.symm) (fun i hi => by
    rw [← atB_nat] at hi ⊢
    obtain ⟨k, hk, e⟩ := (M.at_ _).1 hi
    exact (M'.at_ _).2 ⟨k, X.sub k hk, e⟩)).2 hm
  intro k hk
  have h3 : atB s.lv (φ k) = true := by rw [← e]; exact (M'.at_ _).2 ⟨k, hk, rfl⟩
  obtain ⟨j, hj, ej⟩ := (M.at_ _).1 h3
  rw [← R.inj j k (M.sl j hj) (M'.sl k hk) ej]; exact hj

/-- A round. -/
theorem Mk.round (R : Rep O W φ) (hal : Closed W.nd qw Al) (hqw : ∀ e ∈ qw, W.okE e) (M : Mk O W φ Al (fun _ => False) s S) (hm : jM s < 2000) :
    ∃ S', Mk O W φ Al (fun _ => False) (jRound O.ar (qw.map (encE φ)) s) S' ∧ (∀ k, S k → S' k) ∧ jM (jRound O.ar (qw.map (encE φ)) s) ≤ fals s.lv ∧ ((jRound O.ar (qw.map (encE φ)) s).st = [] → Closed W.nd qw S') := by
  obtain ⟨S1, M1, s1, e1, t1, f1⟩ := M.pops R hal 2000 hm
  obtain ⟨S2, M2, X2, e2, k2⟩ := Mk.ephs R hal (jPops O.ar 2000 s).ep M1 M1.ep
  obtain ⟨S3, M3, X3, k3⟩ := Mk.wake R hal hqw qw M2 (fun f h => h)
  have X := X2.trans X3
  have e : jRound O.ar (qw.map (encE φ)) s = (wakeM jAlive jKp (jEph O.ar (jPops O.ar 2000 s) (jPops O.ar 2000 s).ep) (qw.map (encE φ))).1 := rfl
  rw [e]
  refine ⟨S3, M3, fun k hk => X.sub k (s1 k hk), ?_, fun hst => ?_⟩
  · rw [X.m]
    unfold jM
    rw [t1]
    simpa using f1
  · have b1 := M1.same R M3 X t1 hst
    have b2 : ∀ k, S3 k → S2 k := fun k hk => X2.sub k (b1 k hk)
    intro i j hi hl
    have hi1 := b1 i hi
    have L : LkJ W φ (jPops O.ar 2000 s) S1 i := by
      rcases M1.done i hi1 with h | h | h
      · exact h.elim
      · rw [t1] at h; cases h
      · exact h
    have up : ∀ k, S1 k → S3 k := X.sub
    rcases hl with ⟨hk, hm⟩ | ⟨hk, hm⟩ | ⟨hk, hm, hkey⟩ | ⟨hk, hm⟩
    · exact up _ (L.1 hk (3, j) hm rfl)
    · exact up _ (L.2.1 hk (3, j) hm rfl)
    · exact X3.sub _ (k2 i hi1 hk (L.2.2 hk) (fun v hv h3 => b1 _ (hkey v hv h3)) (3, j) hm rfl)
    · exact k3 (i, j) hm (b2 i hi)

theorem Mk.drain (R : Rep O W φ) (hal : Closed W.nd qw Al) (hqw : ∀ e ∈ qw, W.okE e) : ∀ (n : Nat) {s : Gs} {S : Int → Prop}, Mk O W φ Al (fun _ => False) s S → jM s < 2000 → fals s.lv < n →
    ∃ S', Mk O W φ Al (fun _ => False) (jDrain O.ar (qw.map (encE φ)) n s) S' ∧ (∀ k, S k → S' k) ∧ (jDrain O.ar (qw.map (encE φ)) n s).st = [] ∧ Closed W.nd qw S'
  | 0, s, S, M, hm, hn => by omega
  | n + 1, s, S, M, hm, hn => by
    obtain ⟨S1, M1, s1, m1, c1⟩ := M.round R hal hqw hm
    unfold jDrain
    by_cases hst : (jRound O.ar (qw.map (encE φ)) s).st = []
    · rw [if_pos hst]
      exact ⟨S1, M1, s1, hst, c1 hst⟩
    · rw [if_neg hst]
      have hpos := List.length_pos_iff.2 hst
      unfold jM at m1 hm
      obtain ⟨S2, M2, s2, t2, c2⟩ := Mk.drain R hal hqw n M1 (by unfold jM; omega) (by omega)
      exact ⟨S2, M2, fun k hk => s2 k (s1 k hk), t2, c2⟩

/-- Between the drains: all that is kept is marked. -/
structure Js (O : Wo) (W : Wd) (φ : Int → Int) (s : Gs) (is : List Bool) (qw : List (Int × Int)) : Prop where
  M : Mk O W φ (fun k => atB is k = true) (fun _ => False) s (fun k => atB is k = true)
  st : s.st = []
  shut : Closed W.nd qw fun k => atB is k = true
  len : is.length = W.T.length
  ok : ∀ e ∈ qw, W.okE e

theorem Mk.setAl (M : Mk O W φ Al Ex s S) {Bl : Int → Prop} (h : ∀ k, S k → Bl k) : Mk O W φ Bl Ex s S := ⟨M.len, M.at_, M.sl, h, M.st, M.ep, M.done⟩

/-- A drain marks just what is kept alive. -/
theorem Mk.drainP (R : Rep O W φ) (hqw : ∀ e ∈ qw, W.okE e) {is : List Bool} (hlen : is.length = W.T.length) (hS : ∀ k, S k ↔ atB is k = true)
    (M : Mk O W φ Al (fun _ => False) s S) (hm : jM s ≤ 1280) : Js O W φ (jDrain O.ar (qw.map (encE φ)) 2000 s) (W.clo qw is) qw := by
  have M' := M.setAl (Bl := fun k => Alive W.nd qw (fun k => atB is k = true) k) (fun k hk => Alive.base ((hS k).1 hk))
  obtain ⟨S1, M1, s1, t1, c1⟩ := M'.drain R (Alive.closed W.nd qw _) hqw 2000 (by omega) (by unfold jM at hm; omega)
  have e : S1 = fun k => atB (W.clo qw is) k = true := by
    funext k
    refine propext ⟨fun hk => ?_, fun hk => ?_⟩
    · have hl := M1.sl k hk
      exact cloL_at.2 ⟨hl.1, by rw [hlen]; exact hl.2.1, M1.al k hk⟩
    · exact (cloL_at.1 hk).2.2.least (fun j hj => s1 j ((hS j).2 hj)) c1
  subst e
  exact ⟨M1.setAl (fun k hk => hk), t1, c1, by unfold Wd.clo; rw [cloL_length, hlen], hqw⟩

theorem Js.m {is : List Bool} (h : Js O W φ s is qw) (hO : O.ok) : jM s ≤ 1280 := by
  unfold jM
  rw [h.st]
  have := fals_le s.lv
  have := h.M.len
  have := hO.ha.h4
  simp; omega

theorem fals_new (n : Nat) : fals (List.replicate n false) = n := by unfold fals; simp

/-- Ahead of Settle. -/
theorem Rep.jpre (R : Rep O W φ) : Js O W φ (jPre O) (W.clo W.wait (W.first true)) W.wait := by
  have hflen : (W.first true).length = W.T.length := Wd.first_length W true
  have M0 : Mk O W φ (fun _ => True) (fun _ => False) ⟨List.replicate O.ar.ws.length false, [], []⟩ (fun _ => False) :=
    ⟨by simp, fun p => by
      constructor
      · intro h
        unfold atB at h
        simp only [List.getD_eq_getElem?_getD, List.getElem?_replicate] at h
        split at h <;> simp at h
      · rintro ⟨_, h, _⟩; exact h.elim, fun _ h => h.elim, fun _ h => h.elim, (by intro p h; cases h), (by intro p h; cases h), fun _ h => h.elim⟩
  obtain ⟨S1, M1, X1, e1, k1, b1⟩ := Mk.marks R W.roots M0 (fun v hv => ⟨R.hw.rv v hv, fun _ => trivial⟩)
  have hS1 : ∀ k, S1 k ↔ atB (W.first true) k = true := fun k => by
    rw [Wd.first_at]
    constructor
    · intro hk
      have hl := M1.sl k hk
      refine ⟨hl.1, hl.2.1, .inr ?_⟩
      rcases b1 k hk with h | h
      · exact h.elim
      · exact h
    · rintro ⟨h0, h4, h5 | h5⟩
      · cases h5.2.2
      · exact k1 _ h5 rfl
  unfold jPre
  rw [R.wt, R.rt]
  refine M1.drainP R R.hw.wv hflen hS1 ?_
  rw [X1.m]
  unfold jM
  dsimp only
  rw [fals_new]
  have := R.ho.ha.h4
  simp; omega

/-- One more is kept. -/
theorem Js.keep (R : Rep O W φ) {is : List Bool} (P : Js O W φ s is qw) {x g : Int} (hx : W.live x) (hg : W.live g) (hk : (W.th g).k = 5) :
    Js O W φ (jKeep O.ar s (qw.map (encE φ)) (encV φ (3, x))).1 (W.clo qw (is.set x.toNat true)) (qw ++ [(g, x)]) := by
  have okx : W.okV (3, x) := .inr (.inr (.inr ⟨rfl, hx⟩))
  obtain ⟨M1, X1, e1, _⟩ := (P.M.setAl (Bl := fun _ => True) (fun _ _ => trivial)).mark R okx (fun _ => trivial)
  have hS1 : ∀ k, (atB is k = true ∨ ((3 : Int) = 3 ∧ k = x)) ↔ atB (is.set x.toNat true) k = true := fun k => by
    rw [atB_set hx.1 (by rw [P.len]; exact hx.2.1)]
    constructor
    · rintro (h | ⟨_, h⟩)
      · exact .inr h
      · exact .inl h
    · rintro (h | h)
      · exact .inr ⟨rfl, h⟩
      · exact .inl h
  have P2 := M1.drainP R P.ok (by rw [List.length_set]; exact P.len) hS1 (by rw [X1.m]; exact P.m R.ho)
  have hxin : atB (W.clo qw (is.set x.toNat true)) x = true := cloL_at.2 ⟨hx.1, by rw [List.length_set, P.len]; exact hx.2.1, Alive.base ((hS1 x).1 (.inr ⟨rfl, rfl⟩))⟩
  refine ⟨P2.M, P2.st, ?_, P2.len, fun e he => ?_⟩
  · intro a b ha hl
    by_cases hb : b = x
    · subst hb; exact hxin
    · refine P2.shut a b ha ?_
      rcases hl with h | h | h | ⟨h, h'⟩
      · exact .inl h
      · exact .inr (.inl h)
      · exact .inr (.inr (.inl h))
      · refine .inr (.inr (.inr ⟨h, ?_⟩))
        rcases List.mem_append.1 h' with h4 | h4
        · exact h4
        · simp at h4; exact absurd h4.2 hb
  · rcases List.mem_append.1 he with h | h
    · exact P.ok e h
    · rw [List.mem_singleton.1 h]; exact ⟨hg, hk, hx⟩

theorem Js.alive (R : Rep O W φ) {is : List Bool} (P : Js O W φ s is qw) {x : Int} (hx : W.live x) : jAlive s (encV φ (3, x)) = atB is x := by
  have := P.M.alive R (v := (3, x)) (.inr (.inr (.inr ⟨rfl, hx⟩)))
  simp only [forall_const] at this
  rw [Bool.eq_iff_iff]
  exact this

theorem Js.scan (R : Rep O W φ) : ∀ (l : List It) {s : Gs} {is : List Bool} {qw : List (Int × Int)}, Js O W φ s is qw → (∀ i ∈ l, W.okE i.1) →
    Js O W φ (scanM jAlive (jKeep O.ar) s (qw.map (encE φ)) (l.map (encI φ))).1 (scanM atB W.keepW is qw l).1 (scanM atB W.keepW is qw l).2.1 ∧
      (scanM jAlive (jKeep O.ar) s (qw.map (encE φ)) (l.map (encI φ))).2.1 = (scanM atB W.keepW is qw l).2.1.map (encE φ) ∧
      (scanM jAlive (jKeep O.ar) s (qw.map (encE φ)) (l.map (encI φ))).2.2.1 = (scanM atB W.keepW is qw l).2.2.1.map (encI φ) ∧ (scanM jAlive (jKeep O.ar) s (qw.map (encE φ)) (l.map (encI φ))).2.2.2 = (scanM atB W.keepW is qw l).2.2.2
  | [], s, is, qw, P, _ => ⟨P, rfl, rfl, rfl⟩
  | i :: l, s, is, qw, P, hl => by
    have hi := hl i (by simp)
    have ea : jAlive s (encI φ i).1.1 = atB is i.1.1 := by
      show jAlive s (encE φ i.1).1 = _
      rw [encE_eq]; exact P.alive R hi.1
    simp only [List.map_cons, scanM]
    rw [ea]
    have e2 : (encI φ i).2 = i.2 := rfl
    rw [e2]
    by_cases hc : (i.2.1 && !i.2.2 && atB is i.1.1) = true
    · rw [if_pos hc, if_pos hc]
      have P1 := P.keep R hi.2.2 hi.1 hi.2.1
      have e3 : (encI φ i).1.2 = encV φ (3, i.1.2) := by show (encE φ i.1).2 = _; rw [encE_eq]
      have e4 : (encI φ i).1.1 = encV φ (3, i.1.1) := by show (encE φ i.1).1 = _; rw [encE_eq]
      have eq1 : (jKeep O.ar s (qw.map (encE φ)) (encI φ i).1.2).2.1 ++ [((encI φ i).1.1, (jKeep O.ar s (qw.map (encE φ)) (encI φ i).1.2).2.2)] = (qw ++ [(i.1.1, i.1.2)]).map (encE φ) := by
        rw [List.map_append]
        show qw.map (encE φ) ++ [((encI φ i).1.1, (encI φ i).1.2)] = _
        rfl
      rw [eq1, e3]
      obtain ⟨P2, h0, h1, h2⟩ := Js.scan R l P1 (fun j hj => hl j (by simp [hj]))
      refine ⟨P2, h0, ?_, rfl⟩
      dsimp only
      rw [h1]; rfl
    · rw [if_neg hc, if_neg hc]
      obtain ⟨P2, h0, h1, h2⟩ := Js.scan R l P (fun j hj => hl j (by simp [hj]))
      refine ⟨P2, h0, ?_, h2⟩
      dsimp only
      rw [h1]; rfl

theorem Js.rounds (R : Rep O W φ) : ∀ (n : Nat) (l : List It) {s : Gs} {is : List Bool} {qw : List (Int × Int)}, Js O W φ s is qw → (∀ i ∈ l, W.okE i.1) →
    Js O W φ (roundsM jAlive (jKeep O.ar) n s (qw.map (encE φ)) (l.map (encI φ))).1 (roundsM atB W.keepW n is qw l).1 (roundsM atB W.keepW n is qw l).2.1 ∧
      (roundsM jAlive (jKeep O.ar) n s (qw.map (encE φ)) (l.map (encI φ))).2.1 = (roundsM atB W.keepW n is qw l).2.1.map (encE φ) ∧
      (roundsM jAlive (jKeep O.ar) n s (qw.map (encE φ)) (l.map (encI φ))).2.2 = (roundsM atB W.keepW n is qw l).2.2.map (encI φ)
  | 0, l, s, is, qw, P, hl => ⟨P, rfl, rfl⟩
  | n + 1, l, s, is, qw, P, hl => by
    obtain ⟨P1, h0, h1, h2⟩ := P.scan R l hl
    have hl1 := scan_items is qw hl
    simp only [roundsM]
    rw [h2]
    by_cases hc : (scanM atB W.keepW is qw l).2.2.2 = true
    · rw [if_pos hc, if_pos hc, h1, h0]
      exact Js.rounds R n _ P1 hl1
    · rw [if_neg hc, if_neg hc]
      exact ⟨P1, h0, h1⟩

/-- Behind Settle's passes. -/
theorem Rep.jpasses (R : Rep O W φ) : Js O W φ (jPass O).1 (W.pass true).1 (W.pass true).2.1 ∧ (jPass O).2.1 = (W.pass true).2.1.map (encE φ) ∧ (jPass O).2.2 = (W.pass true).2.2.map (encI φ) := by
  have P0 := R.jpre
  have e : itemsM jAlive (jPre O) O.rg = (itemsM atB (W.clo W.wait (W.first true)) W.regs).map (encI φ) := by
    unfold itemsM
    rw [R.rg, List.map_map, List.map_map]
    refine List.map_congr_left fun e he => ?_
    have := R.hw.gv e he
    show (encE φ e, !jAlive _ (encE φ e).2, false) = (encE φ e, !atB _ e.2, false)
    rw [show (encE φ e).2 = encV φ (3, e.2) by rw [encE_eq], P0.alive R this.2.2]
  have hlen : O.rg.length = W.regs.length := by rw [R.rg]; simp
  unfold jPass Wd.pass passM
  rw [e, hlen, R.wt]
  exact P0.rounds R _ _ (fun i hi => by
    simp only [itemsM, List.mem_map] at hi
    obtain ⟨e, he, rfl⟩ := hi
    exact R.hw.gv e he)

end
end Go.Proofs.Ytjifdalflepcoac

namespace Go.Proofs.Ytjifdalflepcoac
set_option linter.unusedVariables false
set_option linter.unusedSimpArgs false

/-! Where things come to. -/

/-- One behind the other from a on, up to b. -/
def Sit (sz f : Int → Int) : List Int → Int → Int → Prop
  | [], a, b => a = b
  | p :: l, a, b => f p = a ∧ Sit sz f l (a + sz p) b

theorem Sit.congr {sz f g : Int → Int} : ∀ {l : List Int} {a b : Int}, (∀ p ∈ l, g p = f p) → Sit sz f l a b → Sit sz g l a b
  | [], _, _, _, h => h
  | p :: l, a, b, hg, h => ⟨(hg p (by simp)).trans h.1, Sit.congr (fun q hq => hg q (by simp [hq])) h.2⟩

theorem Sit.le {sz f : Int → Int} (h0 : ∀ p, 0 ≤ sz p) : ∀ {l : List Int} {a b : Int}, Sit sz f l a b → a ≤ b
  | [], a, b, h => by have h : a = b := h; omega
  | p :: l, a, b, h => by have := Sit.le h0 h.2; have := h0 p; omega

theorem Sit.mem {sz f : Int → Int} (h0 : ∀ p, 0 ≤ sz p) : ∀ {l : List Int} {a b : Int}, Sit sz f l a b → ∀ p ∈ l, a ≤ f p ∧ f p + sz p ≤ b
  | q :: l, a, b, h, p, hp => by
    rcases List.mem_cons.1 hp with rfl | hp
    · have := Sit.le h0 h.2; have := h.1; omega
    · have := Sit.mem h0 h.2 p hp; have := h0 q; omega

def lookT (f : List Int) (p : Int) : Int := f.getD p.toNat 0

theorem jPlan_spec {A : Ar} {lv : List Bool} {base : Int} : ∀ {l : List Int} {t : List Int × Int}, l.Nodup → (∀ p ∈ l, 0 ≤ p ∧ p < t.1.length) →
    Sit (fun p => 1 + (A.thing p).2.1) (lookT (jPlan A lv base l t).1) (l.filter fun i => atB lv i) (base + t.2) (base + (jPlan A lv base l t).2) ∧ (∀ q, 0 ≤ q → ¬ q ∈ l → lookT (jPlan A lv base l t).1 q = lookT t.1 q) ∧ (jPlan A lv base l t).1.length = t.1.length
  | [], t, _, _ => ⟨rfl, fun _ _ _ => rfl, rfl⟩
  | i :: l, t, hn, hr => by
    rw [List.nodup_cons] at hn
    have hi := hr i (by simp)
    unfold jPlan
    by_cases hc : atB lv i = true
    · rw [if_pos hc, List.filter_cons, if_pos hc]
      obtain ⟨h1, h2, h3⟩ := jPlan_spec (A := A) (lv := lv) (base := base) (l := l) (t := (t.1.set i.toNat (base + t.2), t.2 + (1 + (A.thing i).2.1))) hn.2 (fun p hp => by
        have := hr p (by simp [hp]); simpa using this)
      refine ⟨⟨?_, ?_⟩, fun q hq hqi => ?_, by rw [h3]; simp⟩
      · rw [h2 i hi.1 hn.1]
        unfold lookT
        dsimp only
        rw [List.getD_eq_getElem?_getD, List.getElem?_set_self (by omega)]
        rfl
      · have e : base + t.2 + (1 + (A.thing i).2.1) = base + (t.2 + (1 + (A.thing i).2.1)) := by omega
        rw [e]; exact h1
      · rw [List.mem_cons, not_or] at hqi
        rw [h2 q hq hqi.2]
        unfold lookT
        dsimp only
        rw [List.getD_eq_getElem?_getD, List.getD_eq_getElem?_getD, List.getElem?_set_ne (by omega)]
    · rw [if_neg hc, List.filter_cons, if_neg hc]
      obtain ⟨h1, h2, h3⟩ := jPlan_spec (A := A) (lv := lv) (base := base) (l := l) (t := t) hn.2 (fun p hp => hr p (by simp [hp]))
      exact ⟨h1, fun q hq hqi => h2 q hq (fun h => hqi (by simp [h])), h3⟩

/-! Slid together. -/

def wd (A : Ar) (i : Int) : Int := A.ws.getD i.toNat 0

/-- Nothing that comes later stands where this one comes to. -/
def Slid (sz : Int → Int) (n : Int) : List Int → Int → Prop
  | [], _ => True
  | p :: l, a => 0 ≤ a ∧ 0 ≤ p ∧ p + sz p ≤ n ∧ a + sz p ≤ n ∧ (∀ q ∈ l, a + sz p ≤ q ∨ q + sz q ≤ a) ∧ Slid sz n l (a + sz p)

theorem slide1_spec {A : Ar} {f : List Int} {p a : Int} (hf : lookT f p = a) (h0 : 0 ≤ a) (hp : 0 ≤ p) (h1 : p + (1 + (A.thing p).2.1) ≤ A.ws.length) (h2 : a + (1 + (A.thing p).2.1) ≤ A.ws.length) :
    (jSlide1 f A p).ws.length = A.ws.length ∧ (∀ x, 0 ≤ x → wd (jSlide1 f A p) x = if a ≤ x ∧ x < a + (1 + (A.thing p).2.1) then wd A (p + (x - a)) else wd A x) ∧ (∀ x ∈ (jSlide1 f A p).ws, x ∈ A.ws) ∧ (jSlide1 f A p).nur = A.nur ∧ (jSlide1 f A p).yng = A.yng ∧ (jSlide1 f A p).grn = A.grn := by
  have hn := A.thing_fields p
  have hl : ((A.ws.drop p.toNat).take (1 + (A.thing p).2.1).toNat).length = (1 + (A.thing p).2.1).toNat := by simp; omega
  unfold lookT at hf
  have hle : a.toNat + ((A.ws.drop p.toNat).take (1 + (A.thing p).2.1).toNat).length ≤ A.ws.length := by rw [hl]; omega
  refine ⟨?_, fun x hx => ?_, fun x hx => ?_, rfl, rfl, rfl⟩
  · unfold jSlide1
    rw [hf]
    exact lay_length hle
  · unfold jSlide1 wd
    rw [hf]
    dsimp only
    rw [lay_getD hle, hl]
    by_cases hc : a ≤ x ∧ x < a + (1 + (A.thing p).2.1)
    · rw [if_pos (by omega), if_pos hc]
      simp only [List.getD_eq_getElem?_getD]
      rw [List.getElem?_take, if_pos (by omega), List.getElem?_drop]
      congr 2; omega
    · rw [if_neg (by omega), if_neg hc]
  · unfold jSlide1 at hx
    rw [hf] at hx
    rcases lay_mem hx with h | h
    · exact h
    · exact List.mem_of_mem_drop (List.mem_of_mem_take h)

theorem thing_wd {A : Ar} {p : Int} (h : A.inUse p = true) : A.load p = wd A p := by unfold Ar.load; rw [if_pos h]; rfl

/-- All of them; sz is how many words they have. -/
theorem slide_spec {f : List Int} {sz : Int → Int} : ∀ {l : List Int} {a b : Int} {A : Ar}, Sit sz (lookT f) l a b → Slid sz A.ws.length l a → (∀ p ∈ l, A.inUse p = true ∧ 1 + (A.thing p).2.1 = sz p) → l.Nodup → (∀ p, 0 ≤ sz p) →
    (l.foldl (jSlide1 f) A).ws.length = A.ws.length ∧ (∀ x, 0 ≤ x → (x < a ∨ b ≤ x) → wd (l.foldl (jSlide1 f) A) x = wd A x) ∧ (∀ p ∈ l, ∀ j, 0 ≤ j → j < sz p → wd (l.foldl (jSlide1 f) A) (lookT f p + j) = wd A (p + j)) ∧
      (∀ x ∈ (l.foldl (jSlide1 f) A).ws, x ∈ A.ws) ∧ (l.foldl (jSlide1 f) A).nur = A.nur ∧ (l.foldl (jSlide1 f) A).yng = A.yng ∧ (l.foldl (jSlide1 f) A).grn = A.grn
  | [], a, b, A, _, _, _, _, _ => ⟨rfl, fun _ _ _ => rfl, fun p h => by simp at h, fun _ h => h, rfl, rfl, rfl⟩
  | p :: l, a, b, A, hs, hd, hz, hn, h0 => by
    obtain ⟨d0, dp, d1, d2, d3, d4⟩ := hd
    have hp := hz p (by simp)
    rw [List.nodup_cons] at hn
    obtain ⟨k1, k2, k3, k4, k5, k6⟩ := slide1_spec (A := A) (f := f) (p := p) (a := a) hs.1 d0 dp (by rw [hp.2]; exact d1) (by rw [hp.2]; exact d2)
    rw [hp.2] at k2
    have huse : ∀ x, (jSlide1 f A p).inUse x = A.inUse x := fun x => by unfold Ar.inUse Ar.young Ar.old; rw [k4, k5, k6]
    have hz' : ∀ q ∈ l, (jSlide1 f A p).inUse q = true ∧ 1 + ((jSlide1 f A p).thing q).2.1 = sz q := fun q hq => by
      have h := hz q (by simp [hq])
      refine ⟨by rw [huse]; exact h.1, ?_⟩
      have hq0 : 0 ≤ q := by
        have := h.1
        unfold Ar.inUse at this
        rw [Bool.or_eq_true, young_iff, old_iff] at this
        omega
      have e : (jSlide1 f A p).load q = A.load q := by
        rw [thing_wd h.1, thing_wd (by rw [huse]; exact h.1), k2 q hq0, if_neg]
        have := d3 q hq
        have := h0 q; have h1 := A.thing_fields q
        omega
      rw [thing_of_load e]; exact h.2
    obtain ⟨m1, m2, m3, m4, m5, m6, m7⟩ := slide_spec (f := f) (sz := sz) (l := l) (a := a + sz p) (b := b) (A := jSlide1 f A p) hs.2 (by rw [k1]; exact d4) hz' hn.2 h0
    have hle := Sit.le h0 hs.2
    rw [List.foldl_cons]
    refine ⟨m1.trans k1, fun x hx hxx => ?_, fun q hq j hj hjs => ?_, fun x hx => k3 x (m4 x hx), m5.trans k4, m6.trans k5, m7.trans k6⟩
    · have := h0 p
      rw [m2 x hx (by omega), k2 x hx, if_neg (by omega)]
    · rcases List.mem_cons.1 hq with rfl | hq
      · rw [hs.1]
        rw [m2 (a + j) (by omega) (by omega), k2 (a + j) (by omega), if_pos (by omega)]
        congr 1; omega
      · have h := hz q (by simp [hq])
        have hq0 : 0 ≤ q := by
          have := h.1
          unfold Ar.inUse at this
          rw [Bool.or_eq_true, young_iff, old_iff] at this
          omega
        rw [m3 q hq j hj hjs, k2 (q + j) (by omega), if_neg]
        have := d3 q hq
        omega

/-! Fields are turned. -/

def jFd (s : Gs) (f : List Int) (b : Bool) (x : Int) : Int := if (b || !jAlive s x) = true then 3 else jNow f x

theorem turnN_spec {s : Gs} {f : List Int} {b : Bool} : ∀ (n : Nat) {A : Ar} (i : Int), A.ok → (∀ j : Int, 0 ≤ j → j < n → A.inUse (i + j) = true ∧ R64 (jFd s f b (A.load (i + j)))) →
    (jTurnN s f b n A i).ok ∧ (jTurnN s f b n A i).nur = A.nur ∧ (jTurnN s f b n A i).yng = A.yng ∧ (jTurnN s f b n A i).grn = A.grn ∧ (jTurnN s f b n A i).ws.length = A.ws.length ∧
      (∀ q, (jTurnN s f b n A i).load q = if i ≤ q ∧ q < i + n then jFd s f b (A.load q) else A.load q)
  | 0, A, i, h, _ => ⟨h, rfl, rfl, rfl, rfl, fun q => by rw [if_neg (by omega)]; rfl⟩
  | n + 1, A, i, h, hr => by
    have h0 := hr 0 (by omega) (by omega)
    rw [Int.add_zero] at h0
    have e : jTurn1 s f b A i = A.store i (jFd s f b (A.load i)) := rfl
    have hok : (jTurn1 s f b A i).ok := by rw [e]; exact h.store _ _ h0.2
    have hld : ∀ q, (jTurn1 s f b A i).load q = if q = i then jFd s f b (A.load i) else A.load q := fun q => by
      rw [e, Ar.load_store h]
      by_cases hq : q = i
      · rw [if_pos ⟨hq, h0.1⟩, if_pos hq]
      · rw [if_neg (fun h => hq h.1), if_neg hq]
    have huse : ∀ x, (jTurn1 s f b A i).inUse x = A.inUse x := fun x => by unfold Ar.inUse Ar.young Ar.old; rw [e, Ar.store_nur, Ar.store_yng, Ar.store_grn]
    obtain ⟨m1, m2, m3, m4, m5, m6⟩ := turnN_spec (s := s) (f := f) (b := b) n (A := jTurn1 s f b A i) (i + 1) hok (fun j h1 h2 => by
      have := hr (1 + j) (by omega) (by omega)
      rw [huse, hld, if_neg (by omega), show i + 1 + j = i + (1 + j) by omega]
      exact this)
    unfold jTurnN
    refine ⟨m1, m2.trans (by rw [e, Ar.store_nur]), m3.trans (by rw [e, Ar.store_yng]), m4.trans (by rw [e, Ar.store_grn]), m5.trans (by rw [e, Ar.store_len]), fun q => ?_⟩
    rw [m6 q]
    by_cases hq : q = i
    · subst hq
      rw [if_neg (by omega), if_pos (by omega), hld, if_pos rfl]
    · rw [hld, if_neg hq]
      by_cases hc : i + 1 ≤ q ∧ q < i + 1 + n
      · rw [if_pos hc, if_pos (by omega)]
      · rw [if_neg hc, if_neg (by omega)]

end Go.Proofs.Ytjifdalflepcoac

namespace Go.Proofs.Ytjifdalflepcoac
set_option linter.unusedVariables false
set_option linter.unusedSimpArgs false

section
variable {O : Wo} {W : Wd} {φ : Int → Int} {A B : Ar} {s : Gs} {is : List Bool} {f : List Int} {qw : List (Int × Int)}

theorem choose_ids {φ : Int → Int} {P : Int → Prop} : ∀ {l : List Int}, (∀ p ∈ l, ∃ i, P i ∧ φ i = p) → ∃ m : List Int, m.map φ = l ∧ ∀ i ∈ m, P i
  | [], _ => ⟨[], rfl, by simp⟩
  | p :: l, h => by
    obtain ⟨i, hi, e⟩ := h p (by simp)
    obtain ⟨m, hm, hP⟩ := choose_ids (l := l) (fun q hq => h q (by simp [hq]))
    refine ⟨i :: m, by simp [e, hm], fun k hk => ?_⟩
    rcases List.mem_cons.1 hk with rfl | hk
    · exact hi
    · exact hP k hk

theorem nodup_of_map {φ : Int → Int} : ∀ {l : List Int}, (l.map φ).Nodup → l.Nodup
  | [], _ => List.nodup_nil
  | a :: l, h => by
    rw [List.map_cons, List.nodup_cons] at h
    rw [List.nodup_cons]
    exact ⟨fun ha => h.1 (List.mem_map.2 ⟨a, ha, rfl⟩), nodup_of_map h.2⟩

theorem slid_of {sz f : Int → Int} (h0 : ∀ p, 0 ≤ sz p) {n nur b : Int} (hb : b ≤ n) (hn : 0 ≤ nur) : ∀ {l m : List Int} {a : Int}, Sit sz f (l ++ m) a b → nur ≤ a → (∀ p ∈ l, a ≤ p ∧ p + sz p ≤ n) → l.Pairwise (fun p q => p + sz p ≤ q) →
    (∀ q ∈ m, 0 ≤ q ∧ q + sz q ≤ nur) → Slid sz n (l ++ m) a
  | [], [], a, _, _, _, _, _ => trivial
  | [], q :: m, a, hs, ha, hl, hp, hm => by
    have hq := hm q (by simp)
    have hle := Sit.le h0 hs.2
    have h1 := h0 q
    refine ⟨by omega, hq.1, by omega, by omega, fun r hr => .inr (by have := hm r (by simp [show r ∈ m from hr]); omega), ?_⟩
    exact slid_of h0 hb hn (l := []) (m := m) hs.2 (by omega) (by simp) List.Pairwise.nil (fun r hr => hm r (by simp [hr]))
  | p :: l, m, a, hs, ha, hl, hp, hm => by
    have hpp := hl p (by simp)
    have hle := Sit.le h0 hs.2
    have h1 := h0 p
    rw [List.pairwise_cons] at hp
    refine ⟨by omega, by omega, hpp.2, by omega, fun r hr => ?_, ?_⟩
    · rcases List.mem_append.1 hr with h | h
      · have := hp.1 r h; left; omega
      · right; have := hm r h; omega
    · exact slid_of h0 hb hn hs.2 (by omega) (fun r hr => by have := hp.1 r hr; have := hl r (by simp [hr]); omega) hp.2 hm

/-- What is alive has so many words. -/
theorem sumL_eq (is : List Bool) : sumL is W.T = ((((List.range W.T.length).map (Int.ofNat ·)).filter fun i => atB is i).map fun i => (W.th i).words).sum := by
  rw [sum_filter]
  unfold sumL
  congr 1
  apply List.ext_getElem
  · simp
  · intro k h1 h2
    simp only [List.length_mapIdx] at h1
    simp only [List.getElem_mapIdx, List.getElem_map, List.getElem_range]
    have e1 : W.th (Int.ofNat k) = W.T[k] := by
      unfold Wd.th
      rw [List.getD_eq_getElem?_getD, show (Int.ofNat k).toNat = k from rfl, List.getElem?_eq_getElem h1]; rfl
    have e2 : atB is (Int.ofNat k) = is.getD k false := atB_nat is k
    rw [e1, e2]

theorem Sit.sum {sz f : Int → Int} : ∀ {l : List Int} {a b : Int}, Sit sz f l a b → b = a + (l.map sz).sum
  | [], a, b, h => by have h : a = b := h; simp [h]
  | p :: l, a, b, h => by
    have := Sit.sum h.2
    simp only [List.map_cons, List.sum_cons]; omega

theorem Sit.tile {sz : Int → Int} {φ g : Int → Int} : ∀ {l : List Int} {a b : Int}, Sit sz g (l.map φ) a b → (∀ i ∈ l, (A.thing (g (φ i))).2.2 = 0 ∧ 1 + (A.thing (g (φ i))).2.1 = sz (φ i)) → Tile A (l.map fun i => g (φ i)) a b
  | [], a, b, h, _ => h
  | i :: l, a, b, h, ht => by
    have h1 := ht i (by simp)
    refine ⟨h.1, h1.1, ?_⟩
    have := Sit.tile h.2 (fun k hk => ht k (by simp [hk]))
    have e : a + sz (φ i) = g (φ i) + 1 + (A.thing (g (φ i))).2.1 := by have := h.1; omega
    rw [← e]; exact this

/-- Where things come to, of the world's. -/
def psiJ (f : List Int) (φ : Int → Int) (i : Int) : Int := lookT f (φ i)

theorem jNow_enc {v : Vl} {N : Int} (hok : W.okV v) (hN : v.1 = 3 → 0 ≤ psiJ f φ v.2 ∧ psiJ f φ v.2 ≤ 1280) : jNow f (encV φ v) = encV (psiJ f φ) v := by
  by_cases h3 : v.1 = 3
  · have := hN h3
    rw [encV_ref φ h3, encV_ref _ h3]
    unfold jNow
    rw [if_pos (by omega), show (4 * φ v.2 + 1) / 4 = φ v.2 by omega]
    show refW (psiJ f φ v.2) = _
    unfold refW
    rw [IntKind.wrap_i64]; omega
  · unfold jNow
    rw [if_neg (fun h => h3 ((encV_mod hok).1 h))]
    exact encV_plain h3

/-- What the turning needs to know. -/
structure Tn (O : Wo) (W : Wd) (φ : Int → Int) (s : Gs) (f : List Int) (is : List Bool) : Prop where
  live : ∀ i, atB is i = true → W.live i
  al : ∀ v, W.okV v → (jAlive s (encV φ v) = true ↔ (v.1 = 3 → atB is v.2 = true))
  rng : ∀ i, atB is i = true → 0 ≤ psiJ f φ i ∧ psiJ f φ i ≤ 1280

theorem Tn.R64 (T : Tn O W φ s f is) {v : Vl} (hok : W.okV v) (hs : v.1 = 3 → atB is v.2 = true) : R64 (encV (psiJ f φ) v) := by
  unfold Proofs.Ytjifdalflepcoac.R64
  rcases hok with h | h | h | h
  · have e : encV (psiJ f φ) v = 2 := by simp [encV, h.1]
    rw [e]; decide
  · have e : encV (psiJ f φ) v = 4 * v.2 := by simp [encV, h.1]
    have := h.2
    unfold big at this
    rw [e]; omega
  · have e : encV (psiJ f φ) v = 3 := by simp [encV, h.1]
    rw [e]; decide
  · rw [encV_ref _ h.1]
    have := T.rng _ (hs h.1)
    omega

/-- Is the thing broken? -/
def brkJ (W : Wd) (is : List Bool) (i : Int) : Bool := decide ((W.th i).k = 4) && !inS is ((W.th i).fs.getD 0 (0, 0))

/-- A field, behind. -/
def newF (W : Wd) (is : List Bool) (i : Int) (v : Vl) : Vl := if (brkJ W is i || !inS is v) = true then (2, 0) else v

theorem Tn.fd (T : Tn O W φ s f is) {i : Int} {v : Vl} (hok : W.okV v) : jFd s f (brkJ W is i) (encV φ v) = encV (psiJ f φ) (newF W is i v) ∧ Proofs.Ytjifdalflepcoac.R64 (encV (psiJ f φ) (newF W is i v)) := by
  have ha := T.al v hok
  rw [← inS_iff] at ha
  have ea : jAlive s (encV φ v) = inS is v := Bool.eq_iff_iff.2 ha
  unfold jFd newF
  rw [ea]
  by_cases hc : (brkJ W is i || !inS is v) = true
  · rw [if_pos hc, if_pos hc, enc_gone]
    exact ⟨rfl, R64_three⟩
  · rw [if_neg hc, if_neg hc]
    have hs : v.1 = 3 → atB is v.2 = true := by
      rw [← inS_iff]
      cases h : inS is v
      · rw [h] at hc; simp at hc
      · rfl
    exact ⟨jNow_enc (N := 0) hok (fun h3 => T.rng _ (hs h3)), T.R64 hok hs⟩

theorem cutF_new (h : W.ok) (hcl : Closed W.nd qw fun k => atB is k = true) {i : Int} (hl : W.live i) (hb : atB is i = true) : cutF W is i = (W.th i).fs.map (newF W is i) := by
  have shut : ∀ j, Leads W.nd qw (fun k => atB is k = true) i j → atB is j = true := fun j hj => hcl i j hb hj
  rw [cutF_eq hl.1 hb]
  have hf := h.tk i hl
  have hs := fitsW_spec hf
  by_cases k4 : (W.th i).k = 4
  · obtain ⟨a, b, e⟩ := list_two (Wd.two h hl (.inr (.inl k4)))
    rw [e]
    simp only [List.getD_cons_zero, List.getD_cons_succ, List.map_cons, List.map_nil]
    have e0 : (W.th i).fs.getD 0 (0, 0) = a := by rw [e]; rfl
    cases hk : inS is a
    · have : brkJ W is i = true := by unfold brkJ; rw [e0, hk]; simp [k4]
      rw [if_pos ⟨k4, rfl⟩]
      simp [newF, this]
    · have hb' : brkJ W is i = false := by unfold brkJ; rw [e0, hk]; simp
      rw [if_neg (fun h => by cases h.2), if_neg (fun h => by cases h.2)]
      have h2 : inS is b = true := inS_iff.2 fun h3 => shut _ (.inr (.inr (.inl ⟨k4, by
        show (W.th i).fs[1]? = _
        rw [e]; show some b = _; congr 1; exact Prod.ext h3 rfl, fun v hv h5 => by
        have hv' : (W.th i).fs[0]? = some v := hv
        rw [e] at hv'
        have : a = v := by simpa using hv'
        subst this
        exact inS_iff.1 hk h5⟩)))
      simp [newF, hb', hk, h2]
  · have hb' : brkJ W is i = false := by unfold brkJ; simp [k4]
    rw [if_neg (fun h => k4 h.1)]
    by_cases k3 : (W.th i).k = 3
    · obtain ⟨a, b, e⟩ := list_two (Wd.two h hl (.inl k3))
      rw [e]
      simp only [List.getD_cons_zero, List.getD_cons_succ, List.map_cons, List.map_nil]
      have h2 : inS is b = true := inS_iff.2 fun h3 => shut _ (.inr (.inl ⟨k3, by
        show (W.th i).fs[1]? = _
        rw [e]; show some b = _; congr 1; exact Prod.ext h3 rfl⟩))
      cases hk : inS is a
      · rw [if_pos ⟨k3, rfl⟩]
        simp [newF, hb', hk, h2]
      · rw [if_neg (fun h => by cases h.2)]
        simp [newF, hb', hk, h2]
    · rw [if_neg (fun h => k3 h.1)]
      by_cases k12 : (W.th i).k = 1 ∨ (W.th i).k = 2
      · symm
        rw [List.map_congr_left (g := id), List.map_id]
        intro v hv
        have : inS is v = true := inS_iff.2 fun h3 => shut _ (.inl ⟨k12, by show ((3, v.2) : Vl) ∈ (W.th i).fs; rw [← h3]; exact hv⟩)
        simp [newF, hb', this]
      · have k5 : (W.th i).k = 5 := by omega
        rw [k5] at hf
        simp [fitsW] at hf
        have : (W.th i).fs = [] := hf
        rw [this]; rfl

/-- The fields of things are turned, one thing behind the other. -/
theorem Tn.turns (R : Rep O W φ) (T : Tn O W φ s f is) : ∀ (l : List Int) {A : Ar}, l.Nodup → (∀ i ∈ l, atB is i = true) → A.ok → A.nur = O.ar.nur → A.yng = O.ar.yng → A.grn = O.ar.grn → A.ws.length = O.ar.ws.length →
    (∀ i ∈ l, ∀ j : Int, 0 ≤ j → j ≤ (W.th i).fs.length → A.load (φ i + j) = O.ar.load (φ i + j)) →
    ((l.map φ).foldl (jTurn s f) A).ok ∧ ((l.map φ).foldl (jTurn s f) A).nur = O.ar.nur ∧ ((l.map φ).foldl (jTurn s f) A).yng = O.ar.yng ∧ ((l.map φ).foldl (jTurn s f) A).grn = O.ar.grn ∧ ((l.map φ).foldl (jTurn s f) A).ws.length = O.ar.ws.length ∧
      (∀ i ∈ l, ((l.map φ).foldl (jTurn s f) A).load (φ i) = O.ar.load (φ i) ∧ ∀ (j : Nat) (v : Vl), (W.th i).fs[j]? = some v → ((l.map φ).foldl (jTurn s f) A).load (φ i + 1 + j) = encV (psiJ f φ) (newF W is i v)) ∧
      (∀ k, W.live k → ¬ k ∈ l → ∀ j : Int, 0 ≤ j → j ≤ (W.th k).fs.length → ((l.map φ).foldl (jTurn s f) A).load (φ k + j) = A.load (φ k + j))
  | [], A, _, _, h0, h1, h2, h3, h4, _ => ⟨h0, h1, h2, h3, h4, by simp, fun _ _ _ _ _ _ => rfl⟩
  | i :: l, A, hn, hb, h0, h1, h2, h3, h4, hA => by
    rw [List.nodup_cons] at hn
    have hbi := hb i (by simp)
    have hl := T.live i hbi
    have hth := R.th i hl
    have hAi := hA i (by simp)
    have hA0 := hAi 0 (by omega) (by omega)
    rw [Int.add_zero] at hA0
    have eth : A.thing (φ i) = ((W.th i).k, ((W.th i).fs.length : Int), 0) := by rw [thing_of_load' hA0, hth]
    have fld : ∀ (j : Nat) (v : Vl), (W.th i).fs[j]? = some v → A.load (φ i + 1 + j) = encV φ v := fun j v hv => by
      have hj := (List.getElem?_eq_some_iff.1 hv).1
      rw [Int.add_assoc, hAi (1 + (j : Int)) (by omega) (by omega), ← Int.add_assoc]
      exact R.fl i hl j v hv
    have hbrk : (decide ((A.thing (φ i)).1 = 4) && !jAlive s (A.load (φ i + 1))) = brkJ W is i := by
      rw [eth]
      unfold brkJ
      by_cases k4 : (W.th i).k = 4
      · obtain ⟨a, b, e⟩ := list_two (Wd.two R.hw hl (.inr (.inl k4)))
        have hj0 : (W.th i).fs[0]? = some a := by rw [e]; rfl
        have := fld 0 a hj0
        rw [show φ i + 1 + ((0 : Nat) : Int) = φ i + 1 by omega] at this
        have ok0 := R.hw.tv i hl a (List.mem_of_getElem? hj0)
        rw [this, Bool.eq_iff_iff.2 ((T.al a ok0).trans inS_iff.symm), e]
        simp
      · simp [k4]
    have eT : jTurn s f A (φ i) = jTurnN s f (brkJ W is i) (W.th i).fs.length A (φ i + 1) := by
      unfold jTurn
      rw [hbrk, eth]
      simp
    have use : ∀ q, A.inUse q = O.ar.inUse q := fun q => by unfold Ar.inUse Ar.young Ar.old; rw [h1, h2, h3]
    have huse : ∀ {k : Int}, W.live k → ∀ j : Int, 0 ≤ j → j ≤ (W.th k).fs.length → O.ar.inUse (φ k + j) = true := fun hk j h5 h6 => R.use hk h5 h6
    obtain ⟨m1, m2, m3, m4, m5, m6⟩ := turnN_spec (s := s) (f := f) (b := brkJ W is i) (W.th i).fs.length (A := A) (φ i + 1) h0 (fun j hj0 hj1 => by
      refine ⟨by rw [use, Int.add_assoc]; exact huse hl _ (by omega) (by omega), ?_⟩
      have hv : (W.th i).fs[j.toNat]? = some (W.th i).fs[j.toNat] := List.getElem?_eq_getElem (by omega)
      have := fld _ _ hv
      rw [show ((j.toNat : Nat) : Int) = j by omega] at this
      rw [this]
      have := T.fd (i := i) (R.hw.tv i hl _ (List.mem_of_getElem? hv))
      rw [this.1]; exact this.2)
    rw [← eT] at m1 m2 m3 m4 m5 m6
    have keep : ∀ k, W.live k → k ≠ i → ∀ j : Int, 0 ≤ j → j ≤ (W.th k).fs.length → (jTurn s f A (φ i)).load (φ k + j) = A.load (φ k + j) := fun k hk hne j h5 h6 => by
      rw [m6, if_neg]
      have := R.apart hk hl hne
      omega
    obtain ⟨n1, n2, n3, n4, n5, n6, n7⟩ := Tn.turns R T l (A := jTurn s f A (φ i)) hn.2 (fun k hk => hb k (by simp [hk])) m1 (m2.trans h1) (m3.trans h2) (m4.trans h3) (m5.trans h4) (fun k hk j h5 h6 => by
      have hne : k ≠ i := fun e => hn.1 (e ▸ hk)
      rw [keep k (T.live k (hb k (by simp [hk]))) hne j h5 h6]
      exact hA k (by simp [hk]) j h5 h6)
    rw [List.map_cons, List.foldl_cons]
    refine ⟨n1, n2, n3, n4, n5, fun k hk => ?_, fun k hk hkl j h5 h6 => ?_⟩
    · rcases List.mem_cons.1 hk with rfl | hk
      · constructor
        · have := n7 k hl hn.1 0 (by omega) (by omega)
          rw [Int.add_zero] at this
          rw [this, m6, if_neg (by omega), hA0]
        · intro j v hv
          have hj := (List.getElem?_eq_some_iff.1 hv).1
          have := n7 k hl hn.1 (1 + (j : Int)) (by omega) (by omega)
          rw [← Int.add_assoc] at this
          rw [this, m6, if_pos (by omega), fld j v hv]
          exact (T.fd (R.hw.tv k hl v (List.mem_of_getElem? hv))).1
      · exact n6 k hk
    · rw [List.mem_cons, not_or] at hkl
      rw [n7 k hk hkl.2 j h5 h6, keep k hk hkl.1 j h5 h6]

end
end Go.Proofs.Ytjifdalflepcoac

namespace Go.Proofs.Ytjifdalflepcoac
set_option linter.unusedVariables false
set_option linter.unusedSimpArgs false

section
variable {O : Wo} {W : Wd} {φ : Int → Int}

theorem Wd.cut_great (W : Wd) (h2 : ¬ sumL (W.pass true).1 W.T > W.grow) : W.cut true = (0, W.after true) := by
  unfold Wd.cut
  rw [if_neg (fun h' => by cases h'.1), if_neg h2]

theorem Wd.cut_great_no (W : Wd) (h2 : sumL (W.pass true).1 W.T > W.grow) : W.cut true = (3, W) := by
  unfold Wd.cut
  rw [if_neg (fun h' => by cases h'.1), if_pos h2]

/-- The places of what is alive, in their order, and where they come to. -/
structure Pl (O : Wo) (W : Wd) (φ : Int → Int) (is : List Bool) (N : List Int) : Prop where
  eq : N.map φ = jThings O
  nd : N.Nodup
  nm : ∀ i, i ∈ N ↔ atB is i = true
  sit : Sit (fun p => 1 + (O.ar.thing p).2.1) (lookT (jPl O).1) (jThings O) O.ar.nur (O.ar.nur + (jPl O).2)
  sum : (jPl O).2 = sumL is W.T
  slid : (jPl O).2 ≤ (O.ar.ws.length : Int) - O.ar.nur → Slid (fun p => 1 + (O.ar.thing p).2.1) O.ar.ws.length (jThings O) O.ar.nur

theorem jAll_nodup (R : Rep O W φ) : (jAll O).Nodup := by
  unfold jAll
  rw [List.nodup_append]
  refine ⟨R.tz.nodup, R.ty.nodup, fun a ha b hb => ?_⟩
  have h1 := R.tz.mem a ha
  have h2 := R.ty.mem b hb
  have h3 := O.ar.thing_fields b
  have := R.ho.ha.h1
  omega

theorem Tile.apart' {A : Ar} {l : List Int} {a b : Int} (h : Tile A l a b) : l.Pairwise fun p q => p + (1 + (A.thing p).2.1) ≤ q :=
  h.apart.imp fun h => by omega

theorem Rep.plan (R : Rep O W φ) : Pl O W φ (W.pass true).1 ((choose_ids (φ := φ) (P := fun i => atB (W.pass true).1 i = true) (l := jThings O) (fun p hp => by
    have := (List.mem_filter.1 hp).2
    exact (R.jpasses.1.M.at_ p).1 this)).choose) := by
  obtain ⟨hN, hP⟩ := (choose_ids (φ := φ) (P := fun i => atB (W.pass true).1 i = true) (l := jThings O) (fun p hp => by
    have := (List.mem_filter.1 hp).2
    exact (R.jpasses.1.M.at_ p).1 this)).choose_spec
  generalize (choose_ids (φ := φ) (P := fun i => atB (W.pass true).1 i = true) (l := jThings O) (fun p hp => by
    have := (List.mem_filter.1 hp).2
    exact (R.jpasses.1.M.at_ p).1 this)).choose = N at hN hP
  have P := R.jpasses.1
  have hnd := jAll_nodup R
  have htn : (jThings O).Nodup := hnd.filter _
  have hok := R.ho.ha
  have b1 := hok.h1; have b2 := hok.h2; have b3 := hok.h3
  have rng : ∀ p ∈ jAll O, 0 ≤ p ∧ p < (List.replicate O.ar.ws.length (0 : Int)).length := fun p hp => by
    rw [List.length_replicate]
    have hf := O.ar.thing_fields p
    rcases List.mem_append.1 hp with h | h
    · have := R.tz.mem p h; omega
    · have := R.ty.mem p h; omega
  have inA : ∀ i, W.live i → φ i ∈ jAll O := fun i hi => by
    unfold jAll
    rw [List.mem_append]
    cases ho : (W.th i).old
    · exact .inr (R.iny i hi ho)
    · exact .inl (R.ino i hi ho)
  have nm : ∀ i, i ∈ N ↔ atB (W.pass true).1 i = true := fun i => by
    constructor
    · exact hP i
    · intro hb
      have hl := P.M.sl i hb
      have : φ i ∈ jThings O := List.mem_filter.2 ⟨inA i hl, (P.M.at_ _).2 ⟨i, hb, rfl⟩⟩
      rw [← hN] at this
      obtain ⟨k, hk, e⟩ := List.mem_map.1 this
      rw [← R.inj k i (P.M.sl k (hP k hk)) hl e]; exact hk
  have hNn : N.Nodup := nodup_of_map (by rw [hN]; exact htn)
  obtain ⟨s1, s2, s3⟩ := jPlan_spec (A := O.ar) (lv := (jPass O).1.lv) (base := O.ar.nur) (t := (List.replicate O.ar.ws.length 0, 0)) hnd rng
  rw [Int.add_zero] at s1
  have hsum : (jPl O).2 = sumL (W.pass true).1 W.T := by
    have h1 := s1.sum
    rw [sumL_eq]
    have h2 : (((jAll O).filter fun i => atB (jPass O).1.lv i).map fun p => 1 + (O.ar.thing p).2.1) = N.map fun i => (W.th i).words := by
      show (jThings O).map _ = _
      rw [← hN, List.map_map]
      refine List.map_congr_left fun i hi => ?_
      have := R.th i (P.M.sl i (hP i hi))
      simp only [Function.comp]
      rw [this]; rfl
    rw [h2] at h1
    have h3 : N.Perm (((List.range W.T.length).map (Int.ofNat ·)).filter fun i => atB (W.pass true).1 i) := by
      rw [List.perm_ext_iff_of_nodup hNn ((nodup_range_int _).filter _)]
      intro i
      rw [nm, List.mem_filter]
      constructor
      · intro h
        have hl := P.M.sl i h
        exact ⟨List.mem_map.2 ⟨i.toNat, by rw [List.mem_range]; have := hl.2.1; have := hl.1; omega, by have := hl.1; show ((i.toNat : Nat) : Int) = i; omega⟩, h⟩
      · exact fun h => h.2
    have h4 := sum_perm (h3.map fun i => (W.th i).words)
    show (jPl O).2 = _
    rw [← h4]
    unfold jPl
    omega
  refine ⟨hN, hNn, nm, s1, hsum, fun hle => ?_⟩
  have et : jThings O = (O.ar.things.2.filter fun i => atB (jPass O).1.lv i) ++ (O.ar.things.1.filter fun i => atB (jPass O).1.lv i) := by unfold jThings jAll; rw [List.filter_append]
  have s1' : Sit (fun p => 1 + (O.ar.thing p).2.1) (lookT (jPl O).1) (jThings O) O.ar.nur (O.ar.nur + (jPl O).2) := s1
  rw [et] at s1' ⊢
  refine slid_of (fun p => by have := O.ar.thing_fields p; omega) (n := O.ar.ws.length) (b := O.ar.nur + (jPl O).2) (nur := O.ar.nur) (by omega) (by omega) s1' (Int.le_refl _) (fun p hp => ?_) (R.tz.apart'.filter _) (fun q hq => ?_)
  · have := R.tz.mem p (List.mem_filter.1 hp).1; omega
  · have := R.ty.mem q (List.mem_filter.1 hq).1; omega

/-- A great cut, in a wood and a world. -/
theorem Rep.major (R : Rep O W φ) : (jCut O).1 = (W.cut true).1 ∧ ∃ ψ, Rep (jCut O).2 (W.cut true).2 ψ := by
  have hsy := R.sy; have hso := R.so; have hnur := R.nur; have hlen := R.len
  obtain ⟨P, hq, hI⟩ := R.jpasses
  have PL := R.plan
  generalize Exists.choose _ = N at PL
  obtain ⟨m, hfst, hcnt, hits⟩ := Wd.pass_mid R.hw true
  by_cases hfull : sumL (W.pass true).1 W.T > W.grow
  · have e1 : jCut O = (3, O) := by unfold jCut; rw [if_pos (by rw [PL.sum]; omega)]
    rw [e1, W.cut_great_no hfull]
    exact ⟨rfl, φ, R⟩
  · have hallN : (jPl O).2 ≤ (O.ar.ws.length : Int) - O.ar.nur := by rw [PL.sum]; omega
    have e1 : jCut O = (0, ⟨((jSlid O).cut (jPl O).2.toNat).clear, O.cd.map fun _ => false, O.rt.map (jNow (jPl O).1),
        (newRegs jAlive sameW (jPass O).1 (jPass O).2.2).map (jNowE (jPl O).1), (newWait jAlive sameW (jPass O).1 (jPass O).2.1).map (jNowE (jPl O).1)⟩) := by unfold jCut; rw [if_neg (by rw [PL.sum]; omega)]
    rw [e1, W.cut_great hfull]
    have hokA := R.hw.after (major := true) (by omega)
    have hokO := R.ho.ha
    have b1 := hokO.h1; have b2 := hokO.h2; have b3 := hokO.h3; have b4 := hokO.h4
    have h0 : ∀ p, 0 ≤ (fun p => 1 + (O.ar.thing p).2.1) p := fun p => by have := O.ar.thing_fields p; dsimp only; omega
    have hall0 := Sit.le h0 PL.sit
    have hsl := PL.slid hallN
    have hsit := PL.sit
    generalize hf : (jPl O).1 = f at *
    generalize hall : (jPl O).2 = all at *
    generalize hs : (jPass O).1 = s at *
    generalize his : (W.pass true).1 = is at *
    have lvN : ∀ {i}, i ∈ N → W.live i := fun hi => P.M.sl _ ((PL.nm _).1 hi)
    have thN : ∀ {i}, i ∈ N → (O.ar.thing (φ i)) = ((W.th i).k, ((W.th i).fs.length : Int), 0) := fun hi => R.th _ (lvN hi)
    have place : ∀ {i}, i ∈ N → (O.ar.nur : Int) ≤ psiJ f φ i ∧ psiJ f φ i + (1 + (W.th i).fs.length) ≤ O.ar.nur + all := fun {i} hi => by
      have := Sit.mem h0 hsit (φ i) (by rw [← PL.eq]; exact List.mem_map.2 ⟨i, hi, rfl⟩)
      rw [thN hi] at this
      exact this
    have T : Tn O W φ s f is := ⟨fun i hi => P.M.sl i hi, fun v hv => P.M.alive R hv, fun i hi => by have := place ((PL.nm i).2 hi); omega⟩
    -- turned
    obtain ⟨t1, t2, t3, t4, t5, t6, -⟩ := T.turns R N PL.nd (fun i hi => (PL.nm i).1 hi) hokO rfl rfl rfl rfl (fun _ _ _ _ _ => rfl)
    have eT : (N.map φ).foldl (jTurn s f) O.ar = jTurned O := by rw [PL.eq]; unfold jTurned; rw [hs, hf]
    rw [eT] at t1 t2 t3 t4 t5 t6
    generalize hTd : jTurned O = B0 at *
    have use0 : ∀ q, B0.inUse q = O.ar.inUse q := fun q => by unfold Ar.inUse Ar.young Ar.old; rw [t2, t3, t4]
    have hus : ∀ {i}, i ∈ N → ∀ j : Int, 0 ≤ j → j ≤ (W.th i).fs.length → B0.inUse (φ i + j) = true := fun hi j h1 h2 => by rw [use0]; exact R.use (lvN hi) h1 h2
    -- slid together
    obtain ⟨u1, u2, u3, u4, u5, u6, u7⟩ := slide_spec (f := f) (sz := fun p => 1 + (O.ar.thing p).2.1) (l := jThings O) (A := B0) hsit (by rw [t5]; exact hsl) (fun p hp => by
      rw [← PL.eq] at hp
      obtain ⟨i, hi, rfl⟩ := List.mem_map.1 hp
      have h1 := hus hi 0 (by omega) (by omega)
      rw [Int.add_zero] at h1
      refine ⟨h1, ?_⟩
      rw [thing_of_load (t6 i hi).1]) ((jAll_nodup R).filter _) h0
    have eS : (jThings O).foldl (jSlide1 f) B0 = jSlid O := by unfold jSlid; rw [hTd, hf]
    rw [eS] at u1 u2 u3 u4 u5 u6 u7
    generalize hSd : jSlid O = Bs at *
    obtain ⟨B, hB⟩ : ∃ B, (Bs.cut all.toNat).clear = B := ⟨_, rfl⟩
    rw [hB]
    have bn : B.nur = O.ar.nur := by rw [← hB]; exact u5.trans t2
    have by_ : B.yng = 0 := by rw [← hB]; rfl
    have bg : (B.grn : Int) = O.ar.nur + all := by
      rw [← hB]
      show ((Bs.nur + all.toNat : Nat) : Int) = _
      rw [u5, t2]; omega
    have bw : B.ws = Bs.ws := by rw [← hB]; rfl
    have blen : B.ws.length = O.ar.ws.length := by rw [bw, u1, t5]
    have okB : B.ok := by
      refine ⟨by rw [by_]; exact Nat.zero_le _, by rw [bn]; omega, by rw [blen]; omega, by rw [blen]; exact b4, fun x hx => ?_⟩
      rw [bw] at hx
      exact t1.hw x (u4 x hx)
    have oldB : ∀ x : Int, (O.ar.nur : Int) ≤ x → x < O.ar.nur + all → B.old x = true := fun x h1 h2 => by rw [Proofs.Ytjifdalflepcoac.old_iff, bn, bg]; exact ⟨h1, h2⟩
    have ldB : ∀ {i}, i ∈ N → ∀ j : Int, 0 ≤ j → j ≤ (W.th i).fs.length → B.load (psiJ f φ i + j) = B0.load (φ i + j) := fun {i} hi j h1 h2 => by
      have hp := place hi
      have ho := oldB (psiJ f φ i + j) (by omega) (by omega)
      have hu : B.inUse (psiJ f φ i + j) = true := by unfold Ar.inUse; rw [ho]; simp
      have := u3 (φ i) (by rw [← PL.eq]; exact List.mem_map.2 ⟨i, hi, rfl⟩) j h1 (by rw [thN hi]; dsimp only; omega)
      rw [thing_wd hu, thing_wd (hus hi j h1 h2)]
      have e2 : wd B (psiJ f φ i + j) = wd Bs (psiJ f φ i + j) := by unfold wd; rw [bw]
      rw [e2]; exact this
    have thB : ∀ {i}, i ∈ N → B.thing (psiJ f φ i) = ((W.th i).k, ((W.th i).fs.length : Int), 0) := fun {i} hi => by
      have h1 := ldB hi 0 (by omega) (by omega)
      rw [Int.add_zero, Int.add_zero, (t6 i hi).1] at h1
      rw [thing_of_load' h1]; exact thN hi
    have lv : ∀ {i}, (W.after true).live i ↔ i ∈ N := fun {i} => by rw [Wd.after_live R.hw, his, PL.nm]
    have isN : ∀ {i}, i ∈ N → atB is i = true := fun hi => (PL.nm _).1 hi
    have tha : ∀ {i}, i ∈ N → (W.after true).th i = cutT is i.toNat (W.th i) := fun {i} hi => by rw [← his]; exact Wd.th_after (lvN hi).1 (lvN hi).2.1
    have olda : ∀ {i}, i ∈ N → ((W.after true).th i).old = true := fun {i} hi => by
      rw [tha hi, (cutT_live (by rw [atB_toNat (lvN hi).1]; exact isN hi)).2]
    have clen : ∀ {i}, i ∈ N → (cutT is i.toNat (W.th i)).fs.length = (W.th i).fs.length := fun {i} hi => cutT_len (by rw [atB_toNat (lvN hi).1]; exact isN hi) (R.hw.tk i (lvN hi))
    have hth : B.things = ([], N.map (psiJ f φ)) := by
      refine Tile.things okB (by rw [by_]; rfl) ?_
      rw [bn, bg]
      have := Sit.tile (A := B) (φ := φ) (l := N) (by rw [PL.eq]; exact hsit) (fun i hi => by
        have := thB hi
        unfold psiJ at this
        rw [this]
        dsimp only
        rw [thN hi]
        exact ⟨rfl, rfl⟩)
      exact this
    have tz : Tile B B.things.2 B.nur B.grn := by
      rw [hth, bn, bg]
      exact Sit.tile (A := B) (φ := φ) (l := N) (by rw [PL.eq]; exact hsit) (fun i hi => by
        have := thB hi
        unfold psiJ at this
        rw [this]
        dsimp only
        rw [thN hi]
        exact ⟨rfl, rfl⟩)
    have inj : ∀ i j, i ∈ N → j ∈ N → psiJ f φ i = psiJ f φ j → i = j := fun i j hi hj e => by
      have := tz.nodup
      rw [hth] at this
      exact inj_of_nodup this hi hj e
    have nowV : ∀ {v : Vl}, W.okV v → (v.1 = 3 → v.2 ∈ N) → jNow f (encV φ v) = encV (psiJ f φ) v := fun hv h => jNow_enc (N := 0) hv (fun h3 => by have := place (h h3); omega)
    have nowE : ∀ {e : Int × Int}, e.1 ∈ N → e.2 ∈ N → jNowE f (encE φ e) = encE (psiJ f φ) e := fun {e} h1 h2 => by
      rw [encE_eq, encE_eq]
      unfold jNowE
      dsimp only
      rw [nowV (v := (3, e.1)) (.inr (.inr (.inr ⟨rfl, lvN h1⟩))) (fun _ => h1), nowV (v := (3, e.2)) (.inr (.inr (.inr ⟨rfl, lvN h2⟩))) (fun _ => h2)]
    have hrg : (newRegs jAlive sameW s (jPass O).2.2).map (jNowE f) = (W.after true).regs.map (encE (psiJ f φ)) := by
      rw [hI]
      show _ = (newRegs atB nowW (W.pass true).1 (W.pass true).2.2).map _
      rw [his]
      have itx : ∀ i ∈ (W.pass true).2.2, W.okE i.1 ∧ (i.2.1 = false → atB is i.1.2 = true) := by
        intro i hi
        have h1 : (i.1, i.2.1) ∈ (W.pass true).2.2.map (fun i => (i.1, i.2.1)) := List.mem_map.2 ⟨i, hi, rfl⟩
        rw [hits] at h1
        obtain ⟨e, he', e2⟩ := List.mem_map.1 h1
        have e3 : e = i.1 := congrArg (fun p : (Int × Int) × Bool => p.1) e2
        have e4 : (!atB (W.clo W.wait (W.first true)) e.2) = i.2.1 := congrArg (fun p : (Int × Int) × Bool => p.2) e2
        have hgv := R.hw.gv e he'
        rw [e3] at hgv e4
        exact ⟨hgv, fun hd => hfst _ (by rw [hd] at e4; simpa using e4)⟩
      generalize (W.pass true).2.2 = l at itx
      unfold newRegs
      induction l with
      | nil => rfl
      | cons i l ih =>
        have hi := itx i (by simp)
        have ih := ih (fun j hj => itx j (by simp [hj]))
        have ea : jAlive s (encI φ i).1.1 = atB is i.1.1 := by
          show jAlive _ (encE φ i.1).1 = _
          rw [encE_eq]; exact P.alive R hi.1.1
        simp only [List.map_cons, List.filter_cons, ea]
        have e2 : (encI φ i).2 = i.2 := rfl
        rw [e2]
        by_cases hc : (!i.2.1 && atB is i.1.1) = true
        · rw [if_pos hc, if_pos hc]
          simp only [List.map_cons]
          simp only [Bool.and_eq_true, Bool.not_eq_true'] at hc
          rw [ih]
          congr 1
          exact nowE ((PL.nm _).2 hc.2) ((PL.nm _).2 (hi.2 hc.1))
        · rw [if_neg hc, if_neg hc]; exact ih
    have hwt : (newWait jAlive sameW s (jPass O).2.1).map (jNowE f) = (W.after true).wait.map (encE (psiJ f φ)) := by
      rw [hq]
      show _ = (newWait atB nowW (W.pass true).1 (W.pass true).2.1).map _
      rw [his]
      have hok := P.ok
      have hsh : ∀ f ∈ (W.pass true).2.1, atB is f.1 = true → atB is f.2 = true := fun f hf h => P.shut f.1 f.2 h (.inr (.inr (.inr ⟨(hok f hf).2.1, hf⟩)))
      clear hcnt
      revert hok hsh
      generalize (W.pass true).2.1 = mm
      unfold newWait
      intro hok hsh
      induction mm with
      | nil => rfl
      | cons g mm ih =>
        have ih := ih (fun g hg => hok g (by simp [hg])) (fun g hg => hsh g (by simp [hg]))
        have hg := hok g (by simp)
        have ea : jAlive s (encE φ g).1 = atB is g.1 := by rw [encE_eq]; exact P.alive R hg.1
        simp only [List.map_cons, List.filter_cons, ea]
        by_cases hc : atB is g.1 = true
        · rw [if_pos hc, if_pos hc]
          simp only [List.map_cons]
          rw [ih]
          congr 1
          exact nowE ((PL.nm _).2 hc) ((PL.nm _).2 (hsh g (by simp) hc))
        · rw [if_neg hc, if_neg hc]; exact ih
    have hrt : O.rt.map (jNow f) = W.roots.map (encV (psiJ f φ)) := by
      rw [R.rt, List.map_map]
      refine List.map_congr_left fun v hv => ?_
      refine nowV (R.hw.rv v hv) (fun h3 => (PL.nm _).2 (m.first _ ?_))
      have hl := Wd.okV_ref (R.hw.rv v hv) h3
      exact Wd.first_at.2 ⟨hl.1, hl.2.1, .inr (by rw [← h3]; exact hv)⟩
    have hE64 : ∀ e, (W.after true).okE e → R64e (encE (psiJ f φ) e) := fun e he => by
      have h1 := place (lv.1 he.1); have h2 := place (lv.1 he.2.2)
      constructor
      · show R64 (4 * psiJ f φ e.1 + 1); unfold R64; omega
      · show R64 (4 * psiJ f φ e.2 + 1); unfold R64; omega
    refine ⟨rfl, psiJ f φ, ⟨⟨okB, ?_, fun x hx => ?_, fun e he => ?_, fun e he => ?_, ?_, by simpa using R.ho.hc⟩, hokA, by rw [hth]; exact (by rw [by_]; rfl), tz, fun i j hi hj e => inj i j (lv.1 hi) (lv.1 hj) e, fun p hp => ?_, fun i hi ho => ?_, fun i hi ho => ?_, fun i hi => ?_, fun i hi j v hv => ?_,
      hrt, hrg, hwt, ?_, ?_, by rw [List.length_map]; exact R.cl, fun i hi ho v hv h3 hy => ?_⟩⟩
    · show (O.rt.map _).length = 12
      rw [List.length_map]; exact R.ho.h12
    · have hx' : x ∈ O.rt.map (jNow f) := hx
      rw [hrt] at hx'
      obtain ⟨v, hv, rfl⟩ := List.mem_map.1 hx'
      exact T.R64 (R.hw.rv v hv) (fun h3 => m.first _ (by
        have hl := Wd.okV_ref (R.hw.rv v hv) h3
        exact Wd.first_at.2 ⟨hl.1, hl.2.1, .inr (by rw [← h3]; exact hv)⟩))
    · have he' : e ∈ (newRegs jAlive sameW s (jPass O).2.2).map (jNowE f) := he
      rw [hrg] at he'
      obtain ⟨g, hg, rfl⟩ := List.mem_map.1 he'
      exact hE64 g (hokA.gv g hg)
    · have he' : e ∈ (newWait jAlive sameW s (jPass O).2.1).map (jNowE f) := he
      rw [hwt] at he'
      obtain ⟨g, hg, rfl⟩ := List.mem_map.1 he'
      exact hE64 g (hokA.wv g hg)
    · show ((newRegs jAlive sameW s (jPass O).2.2).map (jNowE f)).length + ((newWait jAlive sameW s (jPass O).2.1).map (jNowE f)).length ≤ 24
      rw [hrg, hwt, List.length_map, List.length_map]; exact hokA.hq
    · have hp' : p ∈ B.things.1 ∨ p ∈ B.things.2 := hp
      rw [hth] at hp'
      dsimp only at hp'
      rcases hp' with h | h
      · cases h
      · obtain ⟨i, hi, rfl⟩ := List.mem_map.1 h
        exact ⟨i, lv.2 hi, rfl⟩
    · rw [olda (lv.1 hi)] at ho; cases ho
    · show psiJ f φ i ∈ B.things.2
      rw [hth]
      exact List.mem_map.2 ⟨i, lv.1 hi, rfl⟩
    · have hb := lv.1 hi
      show B.thing _ = _
      rw [thB hb, tha hb, cutT_kind, clen hb]
    · have hb := lv.1 hi
      rw [tha hb] at hv
      have hj := (List.getElem?_eq_some_iff.1 hv).1
      rw [clen hb] at hj
      show B.load _ = _
      rw [Int.add_assoc, ldB hb (1 + (j : Int)) (by omega) (by omega), ← Int.add_assoc]
      have hv' : (cutF W is i)[j]? = some v := hv
      rw [cutF_new R.hw P.shut (lvN hb) (isN hb), List.getElem?_map] at hv'
      have e2 : (W.th i).fs[j]? = some (W.th i).fs[j] := List.getElem?_eq_getElem hj
      rw [e2] at hv'
      simp only [Option.map_some, Option.some.injEq] at hv'
      rw [← hv']
      exact (t6 i hb).2 j _ e2
    · show (B.nur : Int) = W.most
      rw [bn]; exact R.nur
    · show (B.ws.length : Int) = W.most + W.grow
      rw [blen]; exact R.len
    · have hl3 : (W.after true).live v.2 := Wd.okV_ref (hokA.tv i hi v hv) h3
      rw [olda (lv.1 hl3)] at hy; cases hy

end
end Go.Proofs.Ytjifdalflepcoac

namespace Go.Proofs.Ytjifdalflepcoac
set_option linter.unusedVariables false
set_option linter.unusedSimpArgs false

/-- The word of a root. -/
def Wo.rtA (O : Wo) (k : Int) : Int := O.rt.getD k.toNat 0
def Wo.setRt (O : Wo) (r x : Int) : Wo := { O with rt := O.rt.set r.toNat x }

/-- Room is made: a code. -/
def Wo.room (O : Wo) (n : Int) : Int × Wo :=
  if n ≤ (O.ar.nur : Int) - O.ar.yng then (0, O)
  else if (O.ar.yng : Int) ≤ (O.ar.ws.length : Int) - O.ar.grn then mCut O else jCut O

def storesA (A : Ar) (p : Int) : List Int → Ar
  | [] => A
  | x :: l => storesA (A.store p x) (p + 1) l

/-- A thing of roots, in a wood that has room. -/
def Wo.lay (P : Wo) (r k : Int) (fr : List Int) : Wo :=
  { P with ar := storesA (P.ar.make k fr.length).2 ((P.ar.make k fr.length).1 + 1) (fr.map P.rtA), rt := P.rt.set r.toNat (refW (P.ar.make k fr.length).1) }

def Wo.newT (O : Wo) (r k : Int) (fr : List Int) : Int × Wo :=
  if (O.room (1 + fr.length)).1 = 0 then (0, (O.room (1 + fr.length)).2.lay r k fr) else O.room (1 + fr.length)

/-- Is a word a guardian's? -/
def Wo.isG (O : Wo) (x : Int) : Bool := decide ((O.ar.thingAt x).2.2.2 = 0) && decide ((O.ar.thingAt x).2.1 = 5)

def Wo.reg (O : Wo) (a b : Int) : Int × Wo :=
  if (O.ar.thingAt (O.rtA a)).2.2.2 ≠ 0 then ((O.ar.thingAt (O.rtA a)).2.2.2, O)
  else if O.isG (O.rtA b) = false then (2, O)
  else if 24 ≤ O.rg.length + O.wt.length then (3, O)
  else (0, { O with rg := O.rg ++ [(O.rtA b, O.rtA a)] })

def Wo.pop (O : Wo) (r a : Int) : Int × Wo :=
  if O.isG (O.rtA a) = false then (2, O)
  else match popW O.wt (O.rtA a) with
    | none => (4, O)
    | some q => (0, { O with wt := q.2, rt := O.rt.set r.toNat q.1 })

/-- The root is this word, but for a code. -/
def Wo.putC (O : Wo) (r : Int) (q : Int × Int) : Int × Wo := if q.2 = 0 then (0, O.setRt r q.1) else (q.2, O)

def Wo.lenC (O : Wo) (x : Int) : Int × Int :=
  if (O.ar.thingAt x).2.2.2 = 0 ∧ (O.ar.thingAt x).2.1 = 5 then (4 * (O.ar.thingAt x).2.2.1, 2) else (4 * (O.ar.thingAt x).2.2.1, (O.ar.thingAt x).2.2.2)

/-- A step that may be. -/
def Wo.step (O : Wo) (x : St) : Int × Wo :=
  if x.k = 1 then (0, O.setRt x.r (4 * x.n))
  else if x.k = 2 then (0, O.setRt x.r 2)
  else if x.k = 3 then (0, O.setRt x.r (O.rtA x.a))
  else if x.k = 4 then O.newT x.r 1 [x.a, x.b]
  else if x.k = 5 then O.newT x.r 2 (List.replicate x.n.toNat x.a)
  else if x.k = 6 then O.newT x.r 3 [x.a, x.b]
  else if x.k = 7 then O.newT x.r 4 [x.a, x.b]
  else if x.k = 8 then O.newT x.r 5 []
  else if x.k = 9 then O.reg x.a x.b
  else if x.k = 10 then O.pop x.r x.a
  else if x.k = 11 then O.putC x.r (O.ar.get (O.rtA x.a) x.i)
  else if x.k = 12 then O.set (O.rtA x.a) x.i (O.rtA x.b)
  else if x.k = 13 then O.putC x.r (O.lenC (O.rtA x.a))
  else if x.k = 14 then (0, O.setRt x.r (4 * if O.rtA x.a = O.rtA x.b then 1 else 0))
  else if x.k = 15 then mCut O
  else jCut O

def Wo.do (O : Wo) (x : St) : Int × Wo := if checkM x = 0 then O.step x else (checkM x, O)

theorem storesA_keep (A : Ar) : ∀ (l : List Int) (p : Int), (storesA A p l).nur = A.nur ∧ (storesA A p l).yng = A.yng ∧ (storesA A p l).grn = A.grn ∧ (storesA A p l).ws.length = A.ws.length := by
  intro l
  induction l generalizing A with
  | nil => intro p; exact ⟨rfl, rfl, rfl, rfl⟩
  | cons x l ih =>
    intro p
    obtain ⟨h1, h2, h3, h4⟩ := ih (A.store p x) (p + 1)
    exact ⟨h1.trans (A.store_nur p x), h2.trans (A.store_yng p x), h3.trans (A.store_grn p x), h4.trans (A.store_len p x)⟩

theorem storesA_ok {A : Ar} (h : A.ok) : ∀ (l : List Int) (p : Int), (∀ x ∈ l, R64 x) → (storesA A p l).ok := by
  intro l
  induction l generalizing A with
  | nil => intro p _; exact h
  | cons x l ih => intro p hx; exact ih (h.store p x (hx x (by simp))) (p + 1) fun y hy => hx y (by simp [hy])

theorem store_use (A : Ar) (p x q : Int) : (A.store p x).inUse q = A.inUse q := by
  unfold Ar.inUse Ar.young Ar.old
  rw [A.store_yng, A.store_nur, A.store_grn]

theorem storesA_load {A : Ar} (h : A.ok) : ∀ (l : List Int) (p : Int), (∀ x ∈ l, R64 x) → (∀ j : Nat, j < l.length → A.inUse (p + j) = true) → ∀ q : Int, (storesA A p l).load q = if p ≤ q ∧ q < p + l.length then l.getD (q - p).toNat 0 else A.load q := by
  intro l
  induction l generalizing A with
  | nil => intro p _ _ q; rw [if_neg (fun h => by have h2 := h.2; simp only [List.length_nil] at h2; omega)]; rfl
  | cons x l ih =>
    intro p hx hu q
    have hp : A.inUse p = true := by have := hu 0 (by simp); simpa using this
    show (storesA (A.store p x) (p + 1) l).load q = _
    rw [ih (h.store p x (hx x (by simp))) (p + 1) (fun y hy => hx y (by simp [hy])) (fun j hj => by
      rw [store_use]
      have := hu (j + 1) (by simp; omega)
      rwa [show p + ((j + 1 : Nat) : Int) = p + 1 + (j : Int) by omega] at this) q, Ar.load_store h]
    simp only [List.length_cons]
    by_cases c : q = p
    · subst c
      rw [if_neg (by omega), if_pos ⟨rfl, hp⟩, if_pos (by omega)]
      simp
    · rw [if_neg (c := q = p ∧ _) (fun h => c h.1)]
      by_cases c2 : p + 1 ≤ q ∧ q < p + 1 + l.length
      · rw [if_pos c2, if_pos (by omega), show (q - p).toNat = (q - (p + 1)).toNat + 1 by omega]
        rfl
      · rw [if_neg c2, if_neg (by omega)]

section
variable {O : Wo} {W : Wd} {φ : Int → Int}

theorem Rep.rtA (R : Rep O W φ) {k : Int} (hk : rootOk k = true) : O.rtA k = encV φ (W.rt k) := by
  have h12 := R.hw.hr
  simp only [rootOk, Bool.and_eq_true, decide_eq_true_eq] at hk
  unfold Wo.rtA Wd.rt
  rw [R.rt]
  simp only [List.getD_eq_getElem?_getD, List.getElem?_map]
  rw [List.getElem?_eq_getElem (by omega)]; rfl

theorem Rep.room (R : Rep O W φ) (n : Int) : (O.room n).1 = (W.room n).1 ∧ ∃ ψ, Rep (O.room n).2 (W.room n).2 ψ := by
  have h1 := R.sy; have h2 := R.so; have h3 := R.nur; have h4 := R.len
  unfold Wo.room Wd.room
  by_cases c : n ≤ (O.ar.nur : Int) - O.ar.yng
  · rw [if_pos c, if_neg (by omega)]; exact ⟨rfl, φ, R⟩
  · rw [if_neg c, if_pos (c := n > W.most - W.young) (by omega)]
    by_cases c2 : (O.ar.yng : Int) ≤ (O.ar.ws.length : Int) - O.ar.grn
    · rw [if_pos c2, show decide (W.young > W.grow - W.olds) = false from decide_eq_false (by omega)]
      exact Rep.minor R
    · rw [if_neg c2, show decide (W.young > W.grow - W.olds) = true from decide_eq_true (by omega)]
      exact Rep.major R

theorem Wd.room_no (W : Wd) {n : Int} (h : (W.room n).1 ≠ 0) : (W.room n).2 = W := by
  unfold Wd.room at *
  split
  · rename_i c
    rw [if_pos c] at h
    unfold Wd.cut at *
    split
    · rfl
    · rename_i c1
      rw [if_neg c1] at h
      split
      · rfl
      · rename_i c2
        rw [if_neg c2] at h; exact (h rfl).elim
  · rfl

theorem Wo.room_no (O : Wo) {n : Int} (h : (O.room n).1 ≠ 0) : (O.room n).2 = O := by
  unfold Wo.room at *
  split
  · rfl
  · rename_i c
    rw [if_neg c] at h
    split
    · rename_i c1
      rw [if_pos c1] at h
      unfold mCut at *
      split
      · rfl
      · rename_i c2; rw [if_neg c2] at h; exact (h rfl).elim
    · rename_i c1
      rw [if_neg c1] at h
      unfold jCut at *
      split
      · rfl
      · rename_i c2; rw [if_neg c2] at h; exact (h rfl).elim

theorem refW_in {x : Int} (h0 : 0 ≤ x) (h1 : x ≤ 1000000) : refW x = 4 * x + 1 := IntWalk.i64_in _ (by omega)

theorem Rep.lay {P : Wo} {V : Wd} {ψ : Int → Int} (R : Rep P V ψ) {k r : Int} {fr : List Int} (hf : fitsW k fr.length = true) (hr : 1 + (fr.length : Int) ≤ (P.ar.nur : Int) - P.ar.yng) (hk : ∀ x ∈ fr, rootOk x = true) :
    Rep (P.lay r k fr) (V.put r k (fr.map V.rt)) (extF V.T.length P.ar.yng ψ) := by
  have ha := R.ho.ha
  have a1 := ha.h1; have a2 := ha.h2; have a3 := ha.h3; have a4 := ha.h4
  obtain ⟨m1, m2, m3, m4, m5, m6, m7⟩ := Ar.make_loads ha ⟨hf, hr⟩
  have e1 : (P.ar.make k fr.length).1 = (P.ar.yng : Int) := by rw [Ar.make_yes ⟨hf, hr⟩]
  have hmo := ha.make k fr.length
  have hl : fr.map P.rtA = fr.map (fun x => encV ψ (V.rt x)) := List.map_congr_left fun x hx => R.rtA (hk x hx)
  have hR : ∀ x ∈ fr.map P.rtA, R64 x := fun x hx => by
    rw [hl] at hx
    obtain ⟨y, hy, rfl⟩ := List.mem_map.1 hx
    exact encV_R64 R (Wd.rt_ok R.hw _)
  have hU : ∀ j : Nat, j < (fr.map P.rtA).length → (P.ar.make k fr.length).2.inUse ((P.ar.yng : Int) + 1 + j) = true := fun j hj => by
    rw [List.length_map] at hj
    unfold Ar.inUse Ar.young
    rw [Bool.or_eq_true]
    left
    simp; omega
  have SK := storesA_keep (P.ar.make k fr.length).2 (fr.map P.rtA) ((P.ar.yng : Int) + 1)
  have SL := storesA_load hmo (fr.map P.rtA) ((P.ar.yng : Int) + 1) hR hU
  have hlen : ((fr.map V.rt).length : Int) = fr.length := by simp
  unfold Wo.lay
  rw [e1, refW_in (by omega) (by omega)]
  refine R.put (storesA_ok hmo _ _ hR) (SK.1.trans m5) (SK.2.2.1.trans m6) (SK.2.2.2.trans m7) (by rw [SK.2.1, hlen]; exact m4) (fun q hq => ?_) ?_ (fun j v hv => ?_) (fun v hv => ?_) (by rw [List.length_map]; exact hf)
  · rw [SL q, if_neg, m1 q hq]
    rintro ⟨h1, h2⟩
    simp only [List.length_map] at h2
    have : P.ar.young q = false := by
      cases hy : P.ar.young q
      · rfl
      · have := Proofs.Ytjifdalflepcoac.young_iff.1 hy; omega
    have h3 : P.ar.old q = true := by unfold Ar.inUse at hq; rw [this] at hq; exact hq
    have := Proofs.Ytjifdalflepcoac.old_iff.1 h3
    omega
  · unfold Ar.thing
    rw [SL, if_neg (by omega), m2, partsW_of hf, hlen]
  · rw [List.getElem?_map] at hv
    cases hj : fr[j]? with
    | none => rw [hj] at hv; cases hv
    | some y =>
      rw [hj] at hv
      simp only [Option.map_some, Option.some.injEq] at hv
      have hjl := (List.getElem?_eq_some_iff.1 hj).1
      rw [SL, if_pos (by rw [List.length_map]; omega), hl, show ((P.ar.yng : Int) + 1 + (j : Int) - ((P.ar.yng : Int) + 1)).toNat = j by omega]
      simp only [List.getD_eq_getElem?_getD, List.getElem?_map, hj, Option.map_some, Option.getD_some, hv]
  · obtain ⟨y, hy, rfl⟩ := List.mem_map.1 hv
    exact Wd.rt_ok R.hw _

theorem Rep.newT (R : Rep O W φ) {k r : Int} {fr : List Int} (hf : fitsW k fr.length = true) (hk : ∀ x ∈ fr, rootOk x = true) :
    (O.newT r k fr).1 = (W.newT r k fr).1 ∧ ∃ ψ, Rep (O.newT r k fr).2 (W.newT r k fr).2 ψ := by
  have hfl := fitsW_spec hf
  obtain ⟨e, ψ, R2⟩ := R.room (1 + fr.length)
  have hro := R.hw.room (1 + fr.length) (by omega)
  unfold Wo.newT Wd.newT
  by_cases c : (W.room (1 + fr.length)).1 = 0
  · rw [if_pos c, if_pos (e.trans c)]
    refine ⟨rfl, _, R2.lay hf ?_ hk⟩
    have := hro.2 c; have := R2.sy; have := R2.nur
    omega
  · rw [if_neg c, if_neg (by rw [e]; exact c)]
    rw [Wd.room_no W c] at R2
    exact ⟨e, ψ, R2⟩

theorem Wd.thing_three {k : Int} (hok : W.ok) : W.thing k < 0 ↔ (W.rt k).1 ≠ 3 := by
  unfold Wd.thing
  by_cases h3 : (W.rt k).1 = 3
  · rw [if_pos h3]
    have := (Wd.okV_ref (Wd.rt_ok hok k) h3).1
    constructor
    · intro; omega
    · intro h; exact (h h3).elim
  · rw [if_neg h3]
    exact ⟨fun _ => h3, fun _ => by omega⟩

theorem Rep.isG (R : Rep O W φ) {k : Int} (hk : rootOk k = true) : O.isG (O.rtA k) = false ↔ W.guard k < 0 := by
  unfold Wo.isG
  rw [R.rtA hk, R.thingAt (Wd.rt_ok R.hw k)]
  unfold Wd.guard
  by_cases h3 : (W.rt k).1 = 3
  · have et : W.thing k = (W.rt k).2 := if_pos h3
    have hlv := Wd.okV_ref (Wd.rt_ok R.hw k) h3
    have := hlv.1
    rw [if_pos h3, et]
    by_cases c : (W.th (W.rt k).2).k = 5
    · rw [if_neg (by omega)]
      simp [c]; omega
    · rw [if_pos (.inr c)]
      simp [c]
  · rw [if_neg h3, if_pos (.inl ((Wd.thing_three R.hw).2 h3))]
    simp

theorem popW_enc {g : Int} (hg : W.live g) (hinj : ∀ i j, W.live i → W.live j → φ i = φ j → i = j) : ∀ (l : List (Int × Int)), (∀ e ∈ l, W.okE e) → popW (l.map (encE φ)) (4 * φ g + 1) = (popW l g).map fun r => (4 * φ r.1 + 1, r.2.map (encE φ))
  | [], _ => rfl
  | e :: l, h => by
    have ih := popW_enc hg hinj l fun x hx => h x (by simp [hx])
    have he := (h e (by simp)).1
    rw [List.map_cons]
    unfold popW
    by_cases c : e.1 = g
    · rw [if_pos c, if_pos (by unfold encE; dsimp only; rw [c])]; rfl
    · rw [if_neg c, if_neg (by unfold encE; dsimp only; intro hh; exact c (hinj _ _ he hg (by omega))), ih]
      cases popW l g <;> rfl

theorem Rep.popd (R : Rep O W φ) {wt : List (Int × Int)} (h1 : ∀ e ∈ wt, e ∈ W.wait) (h2 : wt.length ≤ W.wait.length) : Rep { O with wt := wt.map (encE φ) } { W with wait := wt } φ := by
  have e1 : O.wt.length = W.wait.length := by rw [R.wt]; simp
  refine ⟨⟨R.ho.ha, R.ho.h12, R.ho.hR, R.ho.hg, fun x hx => ?_, ?_, R.ho.hc⟩, ?_, R.ty, R.tz, R.inj, R.onto, R.iny, R.ino, R.th, R.fl, R.rt, R.rg, rfl, R.nur, R.len, R.cl, R.card⟩
  · obtain ⟨e, he, rfl⟩ := List.mem_map.1 hx
    refine R.ho.hw _ ?_
    rw [R.wt]
    exact List.mem_map.2 ⟨e, h1 e he, rfl⟩
  · have := R.ho.hq
    show O.rg.length + (wt.map _).length ≤ 24
    rw [List.length_map]; omega
  · have h := R.hw
    refine ⟨h.hr, h.rv, h.tk, h.tv, h.gv, fun x hx => h.wv x (h1 x hx), ?_, h.m1, h.m2, h.g1, h.g2, h.uy, h.uo⟩
    have := h.hq
    show W.regs.length + wt.length ≤ 24
    omega

theorem Rep.pop (R : Rep O W φ) {x : St} (hk : rootOk x.a = true) : (O.pop x.r x.a).1 = (W.pop x).1 ∧ ∃ ψ, Rep (O.pop x.r x.a).2 (W.pop x).2 ψ := by
  unfold Wo.pop Wd.pop
  by_cases c : W.guard x.a < 0
  · rw [if_pos c, if_pos ((R.isG hk).2 c)]; exact ⟨rfl, φ, R⟩
  · rw [if_neg c, if_neg (fun h => c ((R.isG hk).1 h))]
    have hg := Wd.guard_live R.hw c
    have e : O.rtA x.a = 4 * φ (W.guard x.a) + 1 := by
      rw [R.rtA hk]
      have hne : ¬ (W.thing x.a < 0 ∨ (W.th (W.thing x.a)).k ≠ 5) := fun h => by unfold Wd.guard at c; rw [if_pos h] at c; omega
      have h3 : (W.rt x.a).1 = 3 := Decidable.byContradiction fun h => hne (.inl ((Wd.thing_three R.hw).2 h))
      have : W.guard x.a = (W.rt x.a).2 := by unfold Wd.guard; rw [if_neg hne]; unfold Wd.thing; rw [if_pos h3]
      rw [this, encV_ref φ h3]
    rw [e, R.wt, popW_enc hg.1 R.inj _ R.hw.wv]
    cases hp : popW W.wait (W.guard x.a) with
    | none => exact ⟨rfl, φ, R⟩
    | some q =>
      have hm := popW_mem hp
      have R2 := R.popd (wt := q.2) hm.2.1 (by omega)
      have hv : ({ W with wait := q.2 } : Wd).okV (3, q.1) := .inr (.inr (.inr ⟨rfl, (R.hw.wv _ hm.1).2.2⟩))
      have R3 := R2.setR hv x.r
      exact ⟨rfl, φ, R3⟩

theorem Rep.do (R : Rep O W φ) (x : St) : (O.do x).1 = (W.do x).1 ∧ ∃ ψ, Rep (O.do x).2 (W.do x).2 ψ := by
  unfold Wo.do Wd.do
  by_cases hc : ¬ checkM x = 0
  · rw [if_neg hc, if_neg hc]; exact ⟨rfl, φ, R⟩
  have hc : checkM x = 0 := Decidable.not_not.1 hc
  rw [if_pos hc, if_pos hc]
  have hu := checkM_use hc
  have ok : ∀ k, W.okV (W.rt k) := fun k => Wd.rt_ok R.hw k
  unfold Wo.step Wd.step
  by_cases k1 : x.k = 1
  · rw [if_pos k1, if_pos k1]
    exact ⟨rfl, φ, R.setR (Wd.okV_num (hu.2.2.2.2.1 k1).1 (hu.2.2.2.2.1 k1).2) _⟩
  rw [if_neg k1, if_neg k1]
  by_cases k2 : x.k = 2
  · rw [if_pos k2, if_pos k2]
    exact ⟨rfl, φ, R.setR (v := (0, 0)) (.inl ⟨rfl, rfl⟩) _⟩
  rw [if_neg k2, if_neg k2]
  by_cases k3 : x.k = 3
  · rw [if_pos k3, if_pos k3]
    have ha : rootOk x.a = true := hu.2.2.1 (by rw [k3]; rfl)
    rw [R.rtA ha]
    exact ⟨rfl, φ, R.setR (ok _) _⟩
  rw [if_neg k3, if_neg k3]
  by_cases k4 : x.k = 4
  · rw [if_pos k4, if_pos k4]
    have ha : rootOk x.a = true := hu.2.2.1 (by rw [k4]; rfl)
    have hb : rootOk x.b = true := hu.2.2.2.1 (by rw [k4]; rfl)
    exact R.newT rfl (by simp [ha, hb])
  rw [if_neg k4, if_neg k4]
  by_cases k5 : x.k = 5
  · rw [if_pos k5, if_pos k5]
    have ha : rootOk x.a = true := hu.2.2.1 (by rw [k5]; rfl)
    have h5 := hu.2.2.2.2.2 k5
    refine R.newT ?_ fun y hy => by rw [(List.mem_replicate.1 hy).2]; exact ha
    simp [fitsW]; omega
  rw [if_neg k5, if_neg k5]
  by_cases k6 : x.k = 6
  · rw [if_pos k6, if_pos k6]
    have ha : rootOk x.a = true := hu.2.2.1 (by rw [k6]; rfl)
    have hb : rootOk x.b = true := hu.2.2.2.1 (by rw [k6]; rfl)
    exact R.newT rfl (by simp [ha, hb])
  rw [if_neg k6, if_neg k6]
  by_cases k7 : x.k = 7
  · rw [if_pos k7, if_pos k7]
    have ha : rootOk x.a = true := hu.2.2.1 (by rw [k7]; rfl)
    have hb : rootOk x.b = true := hu.2.2.2.1 (by rw [k7]; rfl)
    exact R.newT rfl (by simp [ha, hb])
  rw [if_neg k7, if_neg k7]
  by_cases k8 : x.k = 8
  · rw [if_pos k8, if_pos k8]
    exact R.newT rfl (by simp)
  rw [if_neg k8, if_neg k8]
  by_cases k9 : x.k = 9
  · rw [if_pos k9, if_pos k9]
    have ha : rootOk x.a = true := hu.2.2.1 (by rw [k9]; rfl)
    have hb : rootOk x.b = true := hu.2.2.2.1 (by rw [k9]; rfl)
    unfold Wo.reg Wd.reg
    have tA := R.thingAt (ok x.a)
    rw [← R.rtA ha] at tA
    by_cases h3 : ¬ (W.rt x.a).1 = 3
    · rw [if_neg h3] at tA
      rw [tA, if_pos (by decide), if_pos (.inl ((Wd.thing_three R.hw).2 h3))]
      exact ⟨rfl, φ, R⟩
    have h3 : (W.rt x.a).1 = 3 := Decidable.not_not.1 h3
    rw [if_pos h3] at tA
    rw [tA]
    dsimp only
    rw [if_neg (show ¬ (0 : Int) ≠ 0 by decide)]
    by_cases c : W.guard x.b < 0
    · rw [if_pos ((R.isG hb).2 c), if_pos (.inr c)]; exact ⟨rfl, φ, R⟩
    have hna : ¬ W.thing x.a < 0 := fun h => (Wd.thing_three R.hw).1 h h3
    have n1 : ¬ O.isG (O.rtA x.b) = false := fun h => c ((R.isG hb).1 h)
    have n2 : ¬ (W.thing x.a < 0 ∨ W.guard x.b < 0) := fun h => by rcases h with h | h; exact hna h; exact c h
    rw [if_neg n1, if_neg n2]
    have e1 : O.rg.length = W.regs.length := by rw [R.rg]; simp
    have e2 : O.wt.length = W.wait.length := by rw [R.wt]; simp
    rw [e1, e2]
    by_cases c2 : 24 ≤ W.regs.length + W.wait.length
    · rw [if_pos c2, if_pos c2]; exact ⟨rfl, φ, R⟩
    rw [if_neg c2, if_neg c2]
    have hg := Wd.guard_live R.hw c
    have hla := Wd.thing_live R.hw hna
    have hE : W.okE (W.guard x.b, W.thing x.a) := ⟨hg.1, hg.2.1, hla⟩
    have eA : O.rtA x.a = 4 * φ (W.thing x.a) + 1 := by rw [R.rtA ha, encV_ref φ h3]; unfold Wd.thing; rw [if_pos h3]
    have eB : O.rtA x.b = 4 * φ (W.guard x.b) + 1 := by
      rw [R.rtA hb]
      have hne : ¬ (W.thing x.b < 0 ∨ (W.th (W.thing x.b)).k ≠ 5) := fun h => by unfold Wd.guard at c; rw [if_pos h] at c; omega
      have h3 : (W.rt x.b).1 = 3 := Decidable.byContradiction fun h => hne (.inl ((Wd.thing_three R.hw).2 h))
      have : W.guard x.b = (W.rt x.b).2 := by unfold Wd.guard; rw [if_neg hne]; unfold Wd.thing; rw [if_pos h3]
      rw [this, encV_ref φ h3]
    refine ⟨rfl, φ, ?_⟩
    rw [eA, eB]
    exact Rep.reg R hE (by omega)
  rw [if_neg k9, if_neg k9]
  by_cases k10 : x.k = 10
  · rw [if_pos k10, if_pos k10]
    exact R.pop (hu.2.2.1 (by rw [k10]; rfl))
  rw [if_neg k10, if_neg k10]
  have h3t : ∀ k, (W.rt k).1 = 3 → W.thing k = (W.rt k).2 := fun k h => if_pos h
  have hfc : (if (W.rt x.a).1 ≠ 3 ∨ (W.th (W.rt x.a).2).k = 5 then (2 : Int) else if x.i < 0 ∨ ((W.th (W.rt x.a).2).fs.length : Int) ≤ x.i then 1 else 0) = W.fieldC x := by
    unfold Wd.fieldC
    by_cases h3 : (W.rt x.a).1 = 3
    · have hna : ¬ W.thing x.a < 0 := fun h => (Wd.thing_three R.hw).1 h h3
      rw [h3t _ h3]
      rw [h3t _ h3] at hna
      by_cases c : (W.th (W.rt x.a).2).k = 5
      · rw [if_pos (.inr c), if_pos (.inr c)]
      · have n1 : ¬ ((W.rt x.a).1 ≠ 3 ∨ (W.th (W.rt x.a).2).k = 5) := fun h => by rcases h with h | h; exact h h3; exact c h
        have n2 : ¬ ((W.rt x.a).2 < 0 ∨ (W.th (W.rt x.a).2).k = 5) := fun h => by rcases h with h | h; exact hna h; exact c h
        rw [if_neg n1, if_neg n2]
    · rw [if_pos (.inl h3), if_pos (.inl ((Wd.thing_three R.hw).2 h3))]
  by_cases k11 : x.k = 11
  · rw [if_pos k11, if_pos k11]
    have ha : rootOk x.a = true := hu.2.2.1 (by rw [k11]; rfl)
    rw [R.rtA ha, R.get (ok x.a)]
    unfold Wo.putC Wd.get
    rw [← hfc]
    by_cases c1 : (W.rt x.a).1 ≠ 3 ∨ (W.th (W.rt x.a).2).k = 5
    · simp only [if_pos c1]; exact ⟨rfl, φ, R⟩
    · simp only [if_neg c1]
      by_cases c2 : x.i < 0 ∨ ((W.th (W.rt x.a).2).fs.length : Int) ≤ x.i
      · simp only [if_pos c2]; exact ⟨rfl, φ, R⟩
      · simp only [if_neg c2]
        have h3 : (W.rt x.a).1 = 3 := Decidable.byContradiction fun h => c1 (.inl h)
        rw [h3t _ h3]
        refine ⟨rfl, φ, R.setR ?_ _⟩
        refine R.hw.tv _ (Wd.okV_ref (ok x.a) h3) _ ?_
        have hl : x.i.toNat < (W.th (W.rt x.a).2).fs.length := by omega
        rw [List.getD_eq_getElem?_getD, List.getElem?_eq_getElem hl]
        exact List.getElem_mem _
  rw [if_neg k11, if_neg k11]
  by_cases k12 : x.k = 12
  · rw [if_pos k12, if_pos k12]
    have ha : rootOk x.a = true := hu.2.2.1 (by rw [k12]; rfl)
    have hb : rootOk x.b = true := hu.2.2.2.1 (by rw [k12]; rfl)
    rw [R.rtA ha, R.rtA hb]
    obtain ⟨s1, s2, s3⟩ := Rep.set R (ok x.a) (ok x.b) x.i
    unfold Wd.set
    rw [hfc] at s1
    by_cases c : W.fieldC x = 0
    · rw [if_pos c]
      have h3 : (W.rt x.a).1 = 3 := Decidable.byContradiction fun h => by rw [← hfc, if_pos (.inl h)] at c; cases c
      rw [h3t _ h3]
      exact ⟨s1.trans c, φ, s3 (s1.trans c)⟩
    · rw [if_neg c]
      rw [s2 (by rw [s1]; exact c)]
      exact ⟨s1, φ, R⟩
  rw [if_neg k12, if_neg k12]
  by_cases k13 : x.k = 13
  · rw [if_pos k13, if_pos k13]
    have ha : rootOk x.a = true := hu.2.2.1 (by rw [k13]; rfl)
    unfold Wo.lenC Wd.len
    rw [R.rtA ha, R.thingAt (ok x.a)]
    by_cases h3 : (W.rt x.a).1 = 3
    · have hna : ¬ W.thing x.a < 0 := fun h => (Wd.thing_three R.hw).1 h h3
      have hlv := Wd.okV_ref (ok x.a) h3
      rw [if_pos h3]
      by_cases c : (W.th (W.rt x.a).2).k = 5
      · have n2 : W.thing x.a < 0 ∨ (W.th (W.thing x.a)).k = 5 := .inr (by rw [h3t _ h3]; exact c)
        rw [if_pos n2]
        dsimp only
        rw [if_pos ⟨rfl, c⟩]
        exact ⟨rfl, φ, R⟩
      · have n2 : ¬ (W.thing x.a < 0 ∨ (W.th (W.thing x.a)).k = 5) := fun h => by rcases h with h | h; exact hna h; rw [h3t _ h3] at h; exact c h
        rw [if_neg n2]
        dsimp only
        rw [if_neg (fun h => c h.2)]
        unfold Wo.putC
        rw [if_pos rfl, h3t _ h3]
        have hfl := (fitsW_spec (R.hw.tk _ hlv)).2
        have hbg : big = 1152921504606846976 := rfl
        have hn1 : -big ≤ ((W.th (W.rt x.a).2).fs.length : Int) := by omega
        have hn2 : ((W.th (W.rt x.a).2).fs.length : Int) < big := by omega
        exact ⟨rfl, φ, R.setR (Wd.okV_num hn1 hn2) _⟩
    · have n2 : W.thing x.a < 0 ∨ (W.th (W.thing x.a)).k = 5 := .inl ((Wd.thing_three R.hw).2 h3)
      rw [if_neg h3, if_pos n2]
      exact ⟨rfl, φ, R⟩
  rw [if_neg k13, if_neg k13]
  by_cases k14 : x.k = 14
  · rw [if_pos k14, if_pos k14]
    have ha : rootOk x.a = true := hu.2.2.1 (by rw [k14]; rfl)
    have hb : rootOk x.b = true := hu.2.2.2.1 (by rw [k14]; rfl)
    rw [R.rtA ha, R.rtA hb]
    unfold Wd.same
    have key : (encV φ (W.rt x.a) = encV φ (W.rt x.b)) ↔ W.rt x.a = W.rt x.b := by
      refine ⟨fun h => ?_, fun h => by rw [h]⟩
      have h1 := ok x.a; have h2 := ok x.b
      generalize W.rt x.a = u at *
      generalize W.rt x.b = v at *
      obtain ⟨u1, u2⟩ := u; obtain ⟨v1, v2⟩ := v
      unfold encV at h
      rcases h1 with a | a | a | a <;> rcases h2 with b | b | b | b
      all_goals (obtain ⟨a1, a2⟩ := a; obtain ⟨b1, b2⟩ := b; dsimp only at a1 a2 b1 b2 h; subst a1; subst b1)
      all_goals simp at h
      all_goals first | omega | skip
      · rw [a2, b2]
      · rw [show u2 = v2 by omega]
      · rw [a2, b2]
      · rw [R.inj _ _ a2 b2 (by omega)]
    by_cases c : W.rt x.a = W.rt x.b
    · rw [if_pos (key.2 c), if_pos c]
      exact ⟨rfl, φ, R.setR (Wd.okV_num (n := 1) (by decide) (by decide)) _⟩
    · rw [if_neg (fun h => c (key.1 h)), if_neg c]
      exact ⟨rfl, φ, R.setR (Wd.okV_num (n := 0) (by decide) (by decide)) _⟩
  rw [if_neg k14, if_neg k14]
  by_cases k15 : x.k = 15
  · rw [if_pos k15, if_pos k15]; exact Rep.minor R
  · rw [if_neg k15, if_neg k15]; exact Rep.major R

end
end Go.Proofs.Ytjifdalflepcoac

namespace Go.Proofs.Ytjifdalflepcoac
open Go.RowKit
set_option linter.unusedVariables false
set_option linter.unusedSimpArgs false

/-- Where a heap lies: its block, its wood. -/
structure HH where
  p : Nat
  a : WH

def HH.Own (h : HH) (k : Nat) : Prop := k = h.p ∨ h.a.Own k

structure HeapAt (w : World) (h : HH) (O : Wo) : Prop where
  hp : Blk w h.p [.pointer (some ⟨h.a.p, 0, none⟩)] 38
  H : WoodAt w h.a O

def HeapTo (w : World) (h : HH) (w' : World) (O : Wo) : Prop := ∃ h', HeapAt w' h' O ∧ h'.p = h.p ∧ Keeps h.Own w w' ∧ ∀ k, h'.Own k → h.Own k ∨ w.heap.size ≤ k

section
variable {w w' : World} {h : HH} {O O' : Wo}

theorem HeapAt.p_a (B : HeapAt w h O) : ¬ h.a.Own h.p := fun h1 => by
  obtain ⟨c, T, hc, hT⟩ := B.H.own_type h1
  rcases hT with rfl | rfl | rfl | rfl | rfl | rfl | rfl <;> exact hc.ne B.hp (by decide) rfl

theorem HeapAt.own_lt (B : HeapAt w h O) {k : Nat} (hk : h.Own k) : k < w.heap.size := by
  rcases hk with rfl | hk
  · exact B.hp.lt
  · exact B.H.own_lt hk

theorem HeapAt.keep {S : Nat → Prop} (B : HeapAt w h O) (k : Keeps S w w') (hn : ∀ b, h.Own b → ¬ S b) : HeapAt w' h O := ⟨k.blk B.hp (hn _ (.inl rfl)), B.H.keep k (fun b hb => hn b (.inr hb))⟩
theorem HeapAt.same (B : HeapAt w h O) (k : Keeps (fun _ => False) w w') : HeapAt w' h O := B.keep k (fun _ _ h => h)
theorem HeapTo.same (B : HeapAt w h O) (k : Keeps (fun _ => False) w w') : HeapTo w h w' O := ⟨h, B.same k, rfl, k.mono (fun _ _ h => h.elim), fun k hk => .inl hk⟩

theorem HeapTo.trans {w2 : World} {O2 : Wo} (t : HeapTo w h w' O') (u : ∀ h', h'.p = h.p → HeapAt w' h' O' → HeapTo w' h' w2 O2) : HeapTo w h w2 O2 := by
  obtain ⟨h1, H1, e1, k1, o1⟩ := t
  obtain ⟨h2, H2, e2, k2, o2⟩ := u h1 e1 H1
  refine ⟨h2, H2, e2.trans e1, k1.then k2 o1, fun b hb => ?_⟩
  rcases o2 b hb with h | h
  · exact o1 b h
  · exact .inr (Nat.le_trans k1.size h)

theorem HeapTo.from_same {w1 : World} (k : Keeps (fun _ => False) w w1) (t : HeapTo w1 h w' O') : HeapTo w h w' O' := by
  obtain ⟨h1, H1, e1, k1, o1⟩ := t
  exact ⟨h1, H1, e1, (k.mono (fun _ _ h => h.elim)).trans k1, fun b hb => (o1 b hb).imp id (fun h => Nat.le_trans k.size h)⟩

theorem HeapAt.inW (B : HeapAt w h O) (t : WoodIn w h.a w' O') : HeapAt w' h O' ∧ Keeps h.Own w w' := by
  have kk := t.2.mono (fun k _ hk => hk.own)
  exact ⟨⟨kk.blk B.hp B.p_a, t.1⟩, kk.mono (fun b _ hb => .inr hb)⟩

theorem HeapAt.rootW (B : HeapAt w h O) {g o cap k : Nat} {x : Int} (e : h.a.ro = .slice (some ⟨g, o, none⟩) 12 cap) (hk : k < 12) (hx : R64 x) :
    HeapAt (w.setCell ⟨g, o + k, none⟩ (.int .i64 x)) h (O.setRt k x) ∧ Keeps h.Own w (w.setCell ⟨g, o + k, none⟩ (.int .i64 x)) := by
  have h12 := B.H.ok.h12
  obtain ⟨H', k'⟩ := B.H.setRoot (k := k) (x := x) (by rw [h12]; exact e) (by rw [h12]; exact hk) hx
  have kk : Keeps h.a.Own w (w.setCell ⟨g, o + k, none⟩ (.int .i64 x)) := k'.mono (fun b _ hb => .inr (.inr (.inr (.inr hb))))
  refine ⟨⟨kk.blk B.hp B.p_a, ?_⟩, kk.mono (fun b _ hb => .inr hb)⟩
  unfold Wo.setRt
  rw [Int.toNat_natCast]
  exact H'

theorem HeapAt.pc (B : HeapAt w h O) : w.cell? ⟨h.p, 0, none⟩ = some (.pointer (some ⟨h.a.p, 0, none⟩)) ∧ h.p < w.heap.size := ⟨B.hp.cell 0, B.hp.lt⟩

/-- Its roots, and where its words are. -/
theorem HeapAt.roots (B : HeapAt w h O) : ∃ g o cap, h.a.ro = .slice (some ⟨g, o, none⟩) 12 cap ∧ ownB h.a.ro g ∧ w.cell? ⟨h.a.p, 0, none⟩ = some (.pointer (some ⟨h.a.pa, 0, none⟩)) ∧ w.cell? ⟨h.a.p, 3, none⟩ = some (.slice (some ⟨g, o, none⟩) 12 cap) ∧ h.a.p < w.heap.size ∧
    g < w.heap.size ∧ (∀ k, w.frozen? ⟨g, k, none⟩ = false) ∧ ∀ k : Nat, k < 12 → w.cell? ⟨g, o + k, none⟩ = some (.int .i64 (O.rtA k)) := by
  have h12 := B.H.ok.h12
  obtain ⟨g', o', cap', hro, hown, hgl, q3, fz, rcs⟩ := B.H.roots
  rw [h12] at hro q3
  refine ⟨g', o', cap', hro, hown, B.H.ptrs.1, q3, B.H.hp.lt, hgl, fz, fun k hk => ?_⟩
  have := rcs k (by omega)
  unfold Wo.rtA
  rw [Int.toNat_natCast]
  exact this

theorem rtA_R64 (h : O.ok) (k : Int) : R64 (O.rtA k) := by
  unfold Wo.rtA
  rw [List.getD_eq_getElem?_getD]
  by_cases hk : k.toNat < O.rt.length
  · rw [List.getElem?_eq_getElem hk]; exact h.hR _ (List.getElem_mem hk)
  · rw [List.getElem?_eq_none (by omega)]; unfold R64; decide

/-! New. -/

def HeapRet (w : World) (n o : Int) (e : Ending) (w' : World) : Prop :=
  ∃ h : HH, e = .returned (.tuple #[.pointer (some ⟨h.p, 0, none⟩), .agg #[.int .i64 0, .int .i64 0]]) ∧ HeapAt w' h (Wo.new n o) ∧ Keeps (fun _ => False) w w' ∧ ∀ k, h.Own k → w.heap.size ≤ k

set_option maxHeartbeats 4000000 in
set_option maxRecDepth 100000 in
theorem HNew_yes (n o : Int) (w : World) (h : Ar.fits n o = true) :
    Calls Try.prog 11 #[.int .i64 n, .int .i64 o] w fun e w' => HeapRet w n o e w' := by
  go_enter Try.func11, Try.ntmps11
  go_wp2_with fail
  refine (WNew_yes n o _ h).mono ?_
  rintro e w1 ⟨h, rfl, H1, k1, o1⟩
  have hb1 : Blk w1 w.heap.size [.int .i64 0, .int .i64 0] 31 := k1.blk (Blk.newAt _ rfl rfl) (fun h => h)
  have ka0 := (Keeps.refl (fun _ => False) w).alloc (.cells #[.int .i64 0, .int .i64 0] 31)
  have HK := Lib.hid (ka0.trans k1); have HA := Lib.hid H1; have HB := Lib.hid hb1
  have HO : Hid (∀ k, h.Own k → w.heap.size + 1 ≤ k) := fun k hk => by have := o1 k hk; simpa using this
  clear H1 k1 o1 hb1 ka0
  generalize hb0 : w.heap.size = b0 at HB HO ⊢
  have HSB := Lib.hid (Nat.le_of_eq hb0)
  have HB0 := Lib.hid hb0.symm
  clear hb0
  go_upto_region 2 with (fail)
  have kb := (Keeps.refl (fun _ => False) w1).alloc (.cells #[.int .i64 0, .int .i64 0] 31)
  have d0 : (w1.alloc (.cells #[.int .i64 0, .int .i64 0] 31)).cell? ⟨w1.heap.size, 0, none⟩ = some (.int .i64 0) := (Blk.new w1 [.int .i64 0, .int .i64 0] 31).cell 0
  have dl : w1.heap.size < (w1.alloc (.cells #[.int .i64 0, .int .i64 0] 31)).heap.size := by simp
  have HK2 := Lib.hid (HK.out.trans kb); have HA2 := Lib.hid (HA.out.keep kb (fun _ _ h => h)); have HB2 := Lib.hid (kb.blk HB.out (fun h => h))
  clear kb HK HA HB
  generalize w1.alloc (.cells #[.int .i64 0, .int .i64 0] 31) = w2 at *
  have f0 := HB2.out.free 0; have f1 := HB2.out.free 1; have c0 := HB2.out.cell 0; have c1 := HB2.out.cell 1; have cl := HB2.out.lt
  simp only [List.getElem?_cons_zero, List.getElem?_cons_succ] at c0 c1
  go_wp2_with fail
  have set := ((Keeps.refl (· = b0) w2).setCell (p := ⟨b0, 0, none⟩) (.inl rfl) (.int .i64 0)).setCell (p := ⟨b0, 1, none⟩) (.inl rfl) (.int .i64 0)
  have ka := (Keeps.refl (fun _ => False) ((w2.setCell ⟨b0, 0, none⟩ (.int .i64 0)).setCell ⟨b0, 1, none⟩ (.int .i64 0))).alloc (.cells #[.pointer (some ⟨h.p, 0, none⟩)] 38)
  have hbN := ((HB2.out.setSame 0 (.int .i64 0)).setSame 1 (.int .i64 0)).alloc (.cells #[.pointer (some ⟨h.p, 0, none⟩)] 38)
  have x0' := hbN.cell 0; have x1' := hbN.cell 1
  simp only [List.set_cons_zero, List.set_cons_succ, List.getElem?_cons_zero, List.getElem?_cons_succ] at x0' x1'
  refine bodyPost_ret (v := .tuple #[.pointer (some ⟨w2.heap.size, 0, none⟩), .agg #[.int .i64 0, .int .i64 0]]) (by simp [results, Try.results11, go_sem, x0', x1']) rfl ?_
  refine ⟨⟨w2.heap.size, h⟩, rfl, ⟨Blk.newAt _ (by simp) rfl, (HA2.out.keep set (fun b hb e => by have := HO.out b hb; omega)).keep ka (fun _ _ h => h)⟩, ?_, fun k hk => ?_⟩
  · refine (HK2.out.then set (fun k hk => .inr ?_)).trans ka
    rw [hk]; exact HSB.out
  · rcases hk with rfl | hk
    · exact HK2.out.size
    · have := HO.out k hk; have := HSB.out; have := HB0.out; omega

end

end Go.Proofs.Ytjifdalflepcoac

namespace Go.Proofs.Ytjifdalflepcoac
open Go.RowKit
set_option linter.unusedVariables false
set_option linter.unusedSimpArgs false

theorem storesA_snoc (A : Ar) : ∀ (l : List Int) (p x : Int), storesA A p (l ++ [x]) = (storesA A p l).store (p + l.length) x
  | [], p, x => by simp [storesA]
  | y :: l, p, x => by
    show storesA (A.store p y) (p + 1) (l ++ [x]) = (storesA (A.store p y) (p + 1) l).store _ x
    rw [storesA_snoc _ l (p + 1) x, List.length_cons]
    congr 1
    push_cast
    omega

/-- The same heap, of another wood. -/
def HeapIn (w : World) (h : HH) (w' : World) (O : Wo) : Prop := HeapAt w' h O ∧ Keeps h.Own w w'

theorem HeapIn.to {w w' : World} {h : HH} {O : Wo} (t : HeapIn w h w' O) : HeapTo w h w' O := ⟨h, t.1, rfl, t.2, fun k hk => .inl hk⟩

theorem natsRd {w : World} {ao : Option Addr} {l : List Nat} (h : Rd w ao (l.map fun (k : Nat) => Value.int .i64 (k : Int))) (i : Nat) (hi : i < l.length) :
    ∃ g o, ao = some ⟨g, o, none⟩ ∧ g < w.heap.size ∧ w.cell? ⟨g, o + i, none⟩ = some (.int .i64 ((l.getD i 0 : Nat) : Int)) := by
  obtain ⟨g, o, rfl, hg, hc⟩ := h (by intro e; simp at e; subst e; simp at hi)
  refine ⟨g, o, rfl, hg, ?_⟩
  rw [hc i (by simpa using hi)]
  simp [List.getD, hi]

section
variable {w w' : World} {h : HH} {O O' : Wo}

set_option maxHeartbeats 4000000 in
set_option maxRecDepth 100000 in
theorem HPut_c (r : Nat) (x c : Int) (B : HeapAt w h O) (hr : r < 12) (hx : R64 x) :
    Calls Try.prog 24 #[.pointer (some ⟨h.p, 0, none⟩), .int .i64 r, .int .i64 x, .int .i64 c] w fun e w' => e = .returned (.int .i64 (O.putC r (x, c)).1) ∧ HeapIn w h w' (O.putC r (x, c)).2 := by
  have HB := Lib.hid B
  obtain ⟨b0, bl⟩ := B.pc
  obtain ⟨g, o, cap, hro, hown, q0, q3, ql, gl, fz, rc⟩ := B.roots
  have hf := fz (o + r)
  have hc := rc r hr
  have hri : (r : Int) < 12 := by omega
  have hin := B.rootW (x := x) hro hr hx
  have HIN := Lib.hid hin
  clear hro hown fz rc hin B
  by_cases h0 : c = 0
  · subst h0
    have HE := Lib.hid (show O.putC r (x, 0) = (0, O.setRt r x) from rfl)
    go_enter Try.func24, Try.ntmps24
    go_wp2_with fail
    go_ret
    rw [HE.out]
    exact ⟨rfl, HIN.out⟩
  · have hd : (c == 0) = false := by simpa using h0
    have HE := Lib.hid (show O.putC r (x, c) = (c, O) by unfold Wo.putC; rw [if_neg h0])
    clear h0
    go_enter Try.func24, Try.ntmps24
    go_wp2_with fail
    go_ret
    rw [HE.out]
    exact ⟨rfl, HB.out, Keeps.refl _ _⟩

def RoomRet (w : World) (h : HH) (O : Wo) (n : Int) (e : Ending) (w' : World) : Prop := e = .returned (.int .i64 (O.room n).1) ∧ HeapTo w h w' (O.room n).2

set_option maxHeartbeats 4000000 in
set_option maxRecDepth 100000 in
theorem HRoom_yes (n : Int) (B : HeapAt w h O) (hn : n ≤ (O.ar.nur : Int) - O.ar.yng) :
    Calls Try.prog 42 #[.pointer (some ⟨h.p, 0, none⟩), .int .i64 n] w (RoomRet w h O n) := by
  have HB := Lib.hid B
  have HE := Lib.hid (show O.room n = (0, O) by unfold Wo.room; rw [if_pos hn])
  have o1 := B.H.ok.ha.h1
  have hn2 : n ≤ ((O.ar.nur - O.ar.yng : Nat) : Int) := by omega
  obtain ⟨b0, bl⟩ := B.pc
  have q0 := B.H.ptrs.1; have ql := B.H.hp.lt
  clear B hn o1
  go_enter Try.func42, Try.ntmps42
  go_wp2_with fail
  refine (Free_c _ HB.out.H.ha).mono ?_
  rintro e w1 ⟨rfl, hk⟩
  have B1 := Lib.hid (HB.out.same hk); have K1 := Lib.hid hk
  clear hk b0 bl q0 ql
  obtain ⟨b0, bl⟩ := B1.out.pc
  have q0 := B1.out.H.ptrs.1; have ql := B1.out.H.hp.lt
  generalize ((O.ar.nur - O.ar.yng : Nat) : Int) = fr at *
  generalize ((O.ar.ws.length - O.ar.grn : Nat) : Int) = fo at *
  go_wp2_with fail
  refine (Used_c _ B1.out.H.ha).mono ?_
  rintro e w2 ⟨rfl, hk⟩
  have K2 := Lib.hid (K1.out.trans hk)
  clear hk b0 bl q0 ql
  go_wp2_with fail
  go_ret
  unfold RoomRet
  rw [HE.out]
  exact ⟨rfl, HeapTo.same HB.out K2.out⟩

set_option maxHeartbeats 16000000 in
set_option maxRecDepth 100000 in
theorem HMake_c (r : Nat) (kd : Int) (l : List Nat) (ao : Option Addr) (cap : Nat) (B : HeapAt w h O) (hr : r < 12) (hl : ∀ k ∈ l, k < 12) (hf : fitsW kd l.length = true)
    (hrd : Rd w ao (l.map fun (k : Nat) => Value.int .i64 (k : Int))) (ha : ∀ a, ao = some a → a.block < w.heap.size → ¬ h.Own a.block)
    (hroom : Calls Try.prog 42 #[.pointer (some ⟨h.p, 0, none⟩), .int .i64 (1 + (l.length : Int))] w (RoomRet w h O (1 + l.length)))
    (hfree : (O.room (1 + l.length)).1 = 0 → (1 + (l.length : Int)) ≤ ((O.room (1 + l.length)).2.ar.nur : Int) - (O.room (1 + l.length)).2.ar.yng) :
    Calls Try.prog 26 #[.pointer (some ⟨h.p, 0, none⟩), .int .i64 r, .int .i64 kd, .slice ao l.length cap] w fun e w' => e = .returned (.int .i64 (O.newT r kd (l.map fun (k : Nat) => (k : Int))).1) ∧ HeapTo w h w' (O.newT r kd (l.map fun (k : Nat) => (k : Int))).2 := by
  have HB := Lib.hid B; have HL := Lib.hid hl; have HF := Lib.hid hf; have HRD := Lib.hid hrd; have HA := Lib.hid ha; have HR := Lib.hid hroom
  have hl12 := (fitsW_spec hf).2.2.2
  have HNO := Lib.hid (show (O.room (1 + (l.length : Int))).1 ≠ 0 → O.newT r kd (l.map fun (k : Nat) => (k : Int)) = O.room (1 + (l.length : Int)) from fun h0 => by
    unfold Wo.newT; rw [List.length_map, if_neg h0])
  have HYES := Lib.hid (show (O.room (1 + (l.length : Int))).1 = 0 → O.newT r kd (l.map fun (k : Nat) => (k : Int)) = (0, (O.room (1 + (l.length : Int))).2.lay r kd (l.map fun (k : Nat) => (k : Int))) from fun h0 => by
    unfold Wo.newT; rw [List.length_map, if_pos h0])
  obtain ⟨⟨c, P⟩, hP⟩ : ∃ t, O.room (1 + (l.length : Int)) = t := ⟨_, rfl⟩
  unfold RoomRet at HR
  rw [hP] at HR HNO HYES hfree
  dsimp only at HR HNO HYES hfree
  have hw1 : IntKind.i64.wrap (1 + (l.length : Int)) = 1 + l.length := IntWalk.i64_in _ (by omega)
  clear B hl hf hrd ha hroom hP
  go_enter Try.func26, Try.ntmps26
  go_wp2_with fail
  refine HR.out.mono ?_
  rintro e w1 ⟨rfl, ht⟩
  by_cases h0 : c = 0
  · subst h0
    have HE := Lib.hid (HYES.out rfl)
    obtain ⟨h1, B1', ep, k1, o1⟩ := ht
    have RD1 := Lib.hid (HRD.out.keep k1 (fun a e hb => HA.out a e hb))
    have HA1 := Lib.hid (show ∀ a, ao = some a → a.block < w.heap.size → ¬ h1.Own a.block from fun a e hb hn => by
      rcases o1 _ hn with h2 | h2
      · exact HA.out a e hb h2
      · omega)
    have RDL := Lib.hid (show ∀ a, ao = some a → l ≠ [] → a.block < w.heap.size from fun a e hne => by
      obtain ⟨g, o, e2, hg, _⟩ := HRD.out (by simpa using hne)
      rw [e] at e2; cases e2; exact hg)
    have B1 := Lib.hid B1'; have EP := Lib.hid ep; have K1 := Lib.hid k1; have O1 := Lib.hid o1
    have hfr := hfree rfl
    have hfit : fitsW kd (l.length : Int) = true ∧ 1 + (l.length : Int) ≤ (P.ar.nur : Int) - P.ar.yng := ⟨HF.out, hfr⟩
    have HMK := Lib.hid (Ar.make_yes hfit)
    have hmk1 : (P.ar.make kd l.length).1 = (P.ar.yng : Int) := by rw [HMK.out]
    have HNU := Lib.hid (show (P.ar.make kd l.length).2.nur = P.ar.nur by rw [HMK.out])
    have q1 := B1'.H.ok.ha.h1; have q2 := B1'.H.ok.ha.h2; have q3 := B1'.H.ok.ha.h3; have q4 := B1'.H.ok.ha.h4
    have yl : (P.ar.yng : Int) ≤ 1280 := by omega
    rw [← ep]
    obtain ⟨b0, bl⟩ := B1'.pc
    have p0 := B1'.H.ptrs.1; have pl := B1'.H.hp.lt
    clear B1' k1 o1 hfree HNO HYES hfr hfit q1 q2 q3 q4 ep hw1
    go_wp2_with fail
    have hmc := Make_c kd l.length w1 B1.out.H.ha (by unfold R64; omega)
    rw [hmk1] at hmc
    refine hmc.mono ?_
    rintro e w2 ⟨rfl, ht2⟩
    have hin := B1.out.inW (WoodIn.arena B1.out.H ht2 HNU.out)
    have B2 := Lib.hid hin.1; have K2 := Lib.hid hin.2
    clear ht2 hin b0 bl p0 pl hmc hmk1
    generalize hA2 : (P.ar.make kd l.length).2 = A2 at *
    have HA2 := Lib.hid hA2
    clear hA2
    go_wp2_with fail
    go_loopw [34] (fun u wr => ∃ k : Nat, k ≤ l.length ∧ u = .int .i64 k ∧ HeapAt wr h1 { P with ar := storesA A2 ((P.ar.yng : Int) + 1) ((l.take k).map fun (j : Nat) => P.rtA j) } ∧ Keeps h1.Own w2 wr) (fun u _ => l.length - (intOf u).toNat)
    case atStart => exact ⟨0, Nat.zero_le _, rfl, B2.out, Keeps.refl _ _⟩
    case round =>
      obtain ⟨k, hk, rfl, hB, hK⟩ := hrel
      have BR := Lib.hid hB; have KR := Lib.hid hK
      clear hB hK
      by_cases hlt : k < l.length
      · have RDR := (RD1.out.keep K2.out (fun a e hb hn => by
          by_cases hne : l = []
          · subst hne; simp at hlt
          · exact HA1.out a e (RDL.out a e hne) hn)).keep KR.out (fun a e hb hn => by
          by_cases hne : l = []
          · subst hne; simp at hlt
          · exact HA1.out a e (RDL.out a e hne) hn)
        obtain ⟨gl, ol, rfl, hgl, l0⟩ := natsRd RDR k hlt
        have hm := HL.out (l.getD k 0) (by rw [List.getD_eq_getElem?_getD, List.getElem?_eq_getElem hlt]; exact List.getElem_mem _)
        have htk : ((l.take (k + 1)).map fun (j : Nat) => P.rtA (j : Int)) = ((l.take k).map fun (j : Nat) => P.rtA (j : Int)) ++ [P.rtA ((l.getD k 0 : Nat) : Int)] := by
          rw [List.take_add_one, List.getElem?_eq_getElem hlt, List.map_append, List.getD_eq_getElem?_getD, List.getElem?_eq_getElem hlt]; rfl
        have HST := Lib.hid (show storesA A2 ((P.ar.yng : Int) + 1) ((l.take (k + 1)).map fun (j : Nat) => P.rtA j) = (storesA A2 ((P.ar.yng : Int) + 1) ((l.take k).map fun (j : Nat) => P.rtA j)).store ((P.ar.yng : Int) + 1 + k) (P.rtA ((l.getD k 0 : Nat) : Int)) by
          rw [htk, storesA_snoc, List.length_map, List.length_take, Nat.min_eq_left hk])
        have HXR := Lib.hid (rtA_R64 B1.out.H.ok ((l.getD k 0 : Nat) : Int))
        generalize l.getD k 0 = m at *
        obtain ⟨g, o, cap2, hro, hown, p0, p3, pl, gl2, fz, rc⟩ := BR.out.roots
        have r0 := rc m hm
        have r0 : wr.cell? ⟨g, o + m, none⟩ = some (.int .i64 (P.rtA (m : Int))) := r0
        generalize P.rtA (m : Int) = x at *
        obtain ⟨b0, bl⟩ := BR.out.pc
        have hmi : (m : Int) < 12 := by omega
        have hw1 : IntKind.i64.wrap ((P.ar.yng : Int) + 1) = P.ar.yng + 1 := IntWalk.i64_in _ (by omega)
        have hw2 : IntKind.i64.wrap ((P.ar.yng : Int) + 1 + (k : Int)) = P.ar.yng + 1 + k := IntWalk.i64_in _ (by omega)
        clear hro hown fz rc htk RDR
        go_wp2_with fail
        refine wp_region_ro (.free 0 (.free 1 (.free 2 (.free 7 (.free 8 (.free 9 (.free 10 (.free 11 (.free 12 (.free 13 (.free 18 (.pure 3 (.free 4 (.free 5 (.pure 6 (.pure 14 (.free 15 (.free 16 (.pure 17 (.free 19 (.pure 20 (.run 21 (.swi [] (.fin)))))))))))))))))))))))) [21] (fun w' => w'.cell? ⟨h1.p, 0, none⟩ = some (.pointer (some ⟨h1.a.p, 0, none⟩)) ∧ w'.cell? ⟨h1.a.p, 0, none⟩ = some (.pointer (some ⟨h1.a.pa, 0, none⟩)) ∧ w'.cell? ⟨h1.a.p, 3, none⟩ = some (.slice (some ⟨g, o, none⟩) 12 cap2) ∧ w'.cell? ⟨g, o + m, none⟩ = some (.int .i64 x)) (by kernel_rfl) (by kernel_rfl) ⟨b0, p0, p3, r0⟩ ?_
        first | (refine wpRO_free rfl rfl _ (fun w' => by go_simp; exact Gives.mk _ _) (fun K hK => ?_); go_simp; refine hK _ ?_; clear hK K) | (refine wpRO_skipF rfl rfl (fun K hK => ?_); go_simp; refine hK _ ?_; clear hK K)
        first | (refine wpRO_free rfl rfl _ (fun w' => by go_simp; exact Gives.mk _ _) (fun K hK => ?_); go_simp; refine hK _ ?_; clear hK K) | (refine wpRO_skipF rfl rfl (fun K hK => ?_); go_simp; refine hK _ ?_; clear hK K)
        first | (refine wpRO_free rfl rfl _ (fun w' => by go_simp; exact Gives.mk _ _) (fun K hK => ?_); go_simp; refine hK _ ?_; clear hK K) | (refine wpRO_skipF rfl rfl (fun K hK => ?_); go_simp; refine hK _ ?_; clear hK K)
        first | (refine wpRO_free rfl rfl _ (fun w' => by go_simp; exact Gives.mk _ _) (fun K hK => ?_); go_simp; refine hK _ ?_; clear hK K) | (refine wpRO_skipF rfl rfl (fun K hK => ?_); go_simp; refine hK _ ?_; clear hK K)
        first | (refine wpRO_free rfl rfl _ (fun w' => by go_simp; exact Gives.mk _ _) (fun K hK => ?_); go_simp; refine hK _ ?_; clear hK K) | (refine wpRO_skipF rfl rfl (fun K hK => ?_); go_simp; refine hK _ ?_; clear hK K)
        first | (refine wpRO_free rfl rfl _ (fun w' => by go_simp; exact Gives.mk _ _) (fun K hK => ?_); go_simp; refine hK _ ?_; clear hK K) | (refine wpRO_skipF rfl rfl (fun K hK => ?_); go_simp; refine hK _ ?_; clear hK K)
        first | (refine wpRO_free rfl rfl _ (fun w' => by go_simp; exact Gives.mk _ _) (fun K hK => ?_); go_simp; refine hK _ ?_; clear hK K) | (refine wpRO_skipF rfl rfl (fun K hK => ?_); go_simp; refine hK _ ?_; clear hK K)
        first | (refine wpRO_free rfl rfl _ (fun w' => by go_simp; exact Gives.mk _ _) (fun K hK => ?_); go_simp; refine hK _ ?_; clear hK K) | (refine wpRO_skipF rfl rfl (fun K hK => ?_); go_simp; refine hK _ ?_; clear hK K)
        first | (refine wpRO_free rfl rfl _ (fun w' => by go_simp; exact Gives.mk _ _) (fun K hK => ?_); go_simp; refine hK _ ?_; clear hK K) | (refine wpRO_skipF rfl rfl (fun K hK => ?_); go_simp; refine hK _ ?_; clear hK K)
        first | (refine wpRO_free rfl rfl _ (fun w' => by go_simp; exact Gives.mk _ _) (fun K hK => ?_); go_simp; refine hK _ ?_; clear hK K) | (refine wpRO_skipF rfl rfl (fun K hK => ?_); go_simp; refine hK _ ?_; clear hK K)
        first | (refine wpRO_free rfl rfl _ (fun w' => by go_simp; exact Gives.mk _ _) (fun K hK => ?_); go_simp; refine hK _ ?_; clear hK K) | (refine wpRO_skipF rfl rfl (fun K hK => ?_); go_simp; refine hK _ ?_; clear hK K)
        first | (refine wpRO_pure rfl rfl _ (fun w' hG => by obtain ⟨b0, p0, p3, r0⟩ := hG; exact gives_agg2 rfl (by decide +kernel) rfl (by assumption) (by assumption)) (fun K hK => ?_); go_simp; refine hK _ ?_; clear hK K) | (refine wpRO_pure rfl rfl _ (fun w' hG => by obtain ⟨b0, p0, p3, r0⟩ := hG; go_simp; exact Gives.mk _ _) (fun K hK => ?_); go_simp; refine hK _ ?_; clear hK K) | (refine wpRO_skip rfl rfl (fun K hK => ?_); go_simp; refine hK _ ?_; clear hK K)
        first | (refine wpRO_free rfl rfl _ (fun w' => by go_simp; exact Gives.mk _ _) (fun K hK => ?_); go_simp; refine hK _ ?_; clear hK K) | (refine wpRO_skipF rfl rfl (fun K hK => ?_); go_simp; refine hK _ ?_; clear hK K)
        first | (refine wpRO_free rfl rfl _ (fun w' => by go_simp; exact Gives.mk _ _) (fun K hK => ?_); go_simp; refine hK _ ?_; clear hK K) | (refine wpRO_skipF rfl rfl (fun K hK => ?_); go_simp; refine hK _ ?_; clear hK K)
        first | (refine wpRO_pure rfl rfl _ (fun w' hG => by obtain ⟨b0, p0, p3, r0⟩ := hG; exact gives_agg2 rfl (by decide +kernel) rfl (by assumption) (by assumption)) (fun K hK => ?_); go_simp; refine hK _ ?_; clear hK K) | (refine wpRO_pure rfl rfl _ (fun w' hG => by obtain ⟨b0, p0, p3, r0⟩ := hG; go_simp; exact Gives.mk _ _) (fun K hK => ?_); go_simp; refine hK _ ?_; clear hK K) | (refine wpRO_skip rfl rfl (fun K hK => ?_); go_simp; refine hK _ ?_; clear hK K)
        first | (refine wpRO_pure rfl rfl _ (fun w' hG => by obtain ⟨b0, p0, p3, r0⟩ := hG; exact gives_agg2 rfl (by decide +kernel) rfl (by assumption) (by assumption)) (fun K hK => ?_); go_simp; refine hK _ ?_; clear hK K) | (refine wpRO_pure rfl rfl _ (fun w' hG => by obtain ⟨b0, p0, p3, r0⟩ := hG; go_simp; exact Gives.mk _ _) (fun K hK => ?_); go_simp; refine hK _ ?_; clear hK K) | (refine wpRO_skip rfl rfl (fun K hK => ?_); go_simp; refine hK _ ?_; clear hK K)
        first | (refine wpRO_free rfl rfl _ (fun w' => by go_simp; exact Gives.mk _ _) (fun K hK => ?_); go_simp; refine hK _ ?_; clear hK K) | (refine wpRO_skipF rfl rfl (fun K hK => ?_); go_simp; refine hK _ ?_; clear hK K)
        first | (refine wpRO_free rfl rfl _ (fun w' => by go_simp; exact Gives.mk _ _) (fun K hK => ?_); go_simp; refine hK _ ?_; clear hK K) | (refine wpRO_skipF rfl rfl (fun K hK => ?_); go_simp; refine hK _ ?_; clear hK K)
        first | (refine wpRO_pure rfl rfl _ (fun w' hG => by obtain ⟨b0, p0, p3, r0⟩ := hG; exact gives_agg2 rfl (by decide +kernel) rfl (by assumption) (by assumption)) (fun K hK => ?_); go_simp; refine hK _ ?_; clear hK K) | (refine wpRO_pure rfl rfl _ (fun w' hG => by obtain ⟨b0, p0, p3, r0⟩ := hG; go_simp; exact Gives.mk _ _) (fun K hK => ?_); go_simp; refine hK _ ?_; clear hK K) | (refine wpRO_skip rfl rfl (fun K hK => ?_); go_simp; refine hK _ ?_; clear hK K)
        first | (refine wpRO_free rfl rfl _ (fun w' => by go_simp; exact Gives.mk _ _) (fun K hK => ?_); go_simp; refine hK _ ?_; clear hK K) | (refine wpRO_skipF rfl rfl (fun K hK => ?_); go_simp; refine hK _ ?_; clear hK K)
        first | (refine wpRO_pure rfl rfl _ (fun w' hG => by obtain ⟨b0, p0, p3, r0⟩ := hG; exact gives_agg2 rfl (by decide +kernel) rfl (by assumption) (by assumption)) (fun K hK => ?_); go_simp; refine hK _ ?_; clear hK K) | (refine wpRO_pure rfl rfl _ (fun w' hG => by obtain ⟨b0, p0, p3, r0⟩ := hG; go_simp; exact Gives.mk _ _) (fun K hK => ?_); go_simp; refine hK _ ?_; clear hK K) | (refine wpRO_skip rfl rfl (fun K hK => ?_); go_simp; refine hK _ ?_; clear hK K)
        refine wpRO_chg rfl rfl rfl (fun K hK => ?_); unfold gRun; go_simp
        refine (Store_c _ x _ (BR.out.same ((Keeps.refl (fun _ => False) wr).drew)).H.ha HXR.out).mono ?_
        rintro e w3 ⟨rfl, ht3⟩
        refine hK _ _ ?_
        clear hK K
        refine wpRO_swi (fun _ => True) trivial (wpRO_fin ?_)
        have hin := (BR.out.same ((Keeps.refl (fun _ => False) wr).drew)).inW (WoodIn.arena (BR.out.same ((Keeps.refl (fun _ => False) wr).drew)).H ht3 (Ar.store_nur _ _ _))
        have BN := Lib.hid hin.1
        have KN := Lib.hid ((KR.out.drew).trans hin.2)
        clear ht3 hin b0 bl p0 p3 pl gl2 r0 l0 hgl hw1 hw2
        go_wp2_with fail
        go_roundw
        case rel => exact ⟨k + 1, hlt, by go_num, by rw [HST.out]; exact BN.out, KN.out⟩
        case measure => simp [intOf]; omega
      · obtain rfl : k = l.length := by omega
        rw [List.take_length] at BR
        obtain ⟨g, o, cap2, hro, hown, p0, p3, pl, gl2, fz, rc⟩ := BR.out.roots
        obtain ⟨b0, bl⟩ := BR.out.pc
        have hf := fz (o + r); have hc := rc r hr
        have hri : (r : Int) < 12 := by omega
        have HRO := Lib.hid hro
        clear hro hown fz rc
        go_wp2_with fail
        refine wp_region_ro (.free 0 (.free 1 (.free 2 (.free 7 (.free 8 (.pure 3 (.free 4 (.free 5 (.pure 6 (.run 9 (.free 10 (.run 11 (.swi [] (.fin)))))))))))))) [11] (fun w' => w'.cell? ⟨h1.p, 0, none⟩ = some (.pointer (some ⟨h1.a.p, 0, none⟩)) ∧ w'.cell? ⟨h1.a.p, 3, none⟩ = some (.slice (some ⟨g, o, none⟩) 12 cap2)) (by kernel_rfl) (by kernel_rfl) ⟨b0, p3⟩ ?_
        first | (refine wpRO_free rfl rfl _ (fun w' => by go_simp; exact Gives.mk _ _) (fun K hK => ?_); go_simp; refine hK _ ?_; clear hK K) | (refine wpRO_skipF rfl rfl (fun K hK => ?_); go_simp; refine hK _ ?_; clear hK K)
        first | (refine wpRO_free rfl rfl _ (fun w' => by go_simp; exact Gives.mk _ _) (fun K hK => ?_); go_simp; refine hK _ ?_; clear hK K) | (refine wpRO_skipF rfl rfl (fun K hK => ?_); go_simp; refine hK _ ?_; clear hK K)
        first | (refine wpRO_free rfl rfl _ (fun w' => by go_simp; exact Gives.mk _ _) (fun K hK => ?_); go_simp; refine hK _ ?_; clear hK K) | (refine wpRO_skipF rfl rfl (fun K hK => ?_); go_simp; refine hK _ ?_; clear hK K)
        first | (refine wpRO_free rfl rfl _ (fun w' => by go_simp; exact Gives.mk _ _) (fun K hK => ?_); go_simp; refine hK _ ?_; clear hK K) | (refine wpRO_skipF rfl rfl (fun K hK => ?_); go_simp; refine hK _ ?_; clear hK K)
        first | (refine wpRO_free rfl rfl _ (fun w' => by go_simp; exact Gives.mk _ _) (fun K hK => ?_); go_simp; refine hK _ ?_; clear hK K) | (refine wpRO_skipF rfl rfl (fun K hK => ?_); go_simp; refine hK _ ?_; clear hK K)
        first | (refine wpRO_pure rfl rfl _ (fun w' hG => by obtain ⟨b0, p3⟩ := hG; exact gives_agg2 rfl (by decide +kernel) rfl (by assumption) (by assumption)) (fun K hK => ?_); go_simp; refine hK _ ?_; clear hK K) | (refine wpRO_pure rfl rfl _ (fun w' hG => by obtain ⟨b0, p3⟩ := hG; go_simp; exact Gives.mk _ _) (fun K hK => ?_); go_simp; refine hK _ ?_; clear hK K) | (refine wpRO_skip rfl rfl (fun K hK => ?_); go_simp; refine hK _ ?_; clear hK K)
        first | (refine wpRO_free rfl rfl _ (fun w' => by go_simp; exact Gives.mk _ _) (fun K hK => ?_); go_simp; refine hK _ ?_; clear hK K) | (refine wpRO_skipF rfl rfl (fun K hK => ?_); go_simp; refine hK _ ?_; clear hK K)
        first | (refine wpRO_free rfl rfl _ (fun w' => by go_simp; exact Gives.mk _ _) (fun K hK => ?_); go_simp; refine hK _ ?_; clear hK K) | (refine wpRO_skipF rfl rfl (fun K hK => ?_); go_simp; refine hK _ ?_; clear hK K)
        first | (refine wpRO_pure rfl rfl _ (fun w' hG => by obtain ⟨b0, p3⟩ := hG; exact gives_agg2 rfl (by decide +kernel) rfl (by assumption) (by assumption)) (fun K hK => ?_); go_simp; refine hK _ ?_; clear hK K) | (refine wpRO_pure rfl rfl _ (fun w' hG => by obtain ⟨b0, p3⟩ := hG; go_simp; exact Gives.mk _ _) (fun K hK => ?_); go_simp; refine hK _ ?_; clear hK K) | (refine wpRO_skip rfl rfl (fun K hK => ?_); go_simp; refine hK _ ?_; clear hK K)
        refine wpRO_run rfl rfl (fun K hK => ?_); unfold gRun; go_simp
        refine (Ref_c (P.ar.yng : Int) _ (by omega) (by omega)).mono ?_
        rintro e w5 ⟨rfl, rfl⟩
        refine hK _ _ (fun hg => hg) ?_
        clear hK K
        first | (refine wpRO_free rfl rfl _ (fun w' => by go_simp; exact Gives.mk _ _) (fun K hK => ?_); go_simp; refine hK _ ?_; clear hK K) | (refine wpRO_skipF rfl rfl (fun K hK => ?_); go_simp; refine hK _ ?_; clear hK K)
        refine wpRO_chg rfl rfl rfl (fun K hK => ?_); unfold gRun; go_simp
        refine hK _ _ ?_
        clear hK K
        refine wpRO_swi (fun _ => True) trivial (wpRO_fin ?_)
        have hin := BR.out.rootW (k := r) (x := 4 * (P.ar.yng : Int) + 1) HRO.out hr (by unfold R64; omega)
        have hlay : P.lay r kd (l.map fun (k : Nat) => (k : Int)) = Wo.setRt { P with ar := storesA A2 ((P.ar.yng : Int) + 1) (l.map fun (j : Nat) => P.rtA j) } r (4 * (P.ar.yng : Int) + 1) := by
          have h1 : (P.ar.make kd l.length).1 = (P.ar.yng : Int) := by rw [HMK.out]
          unfold Wo.lay Wo.setRt
          rw [List.length_map, HA2.out, h1, refW_in (by omega) (by omega), List.map_map]
          rfl
        have TO := Lib.hid (show HeapTo w h (wr.setCell ⟨g, o + r, none⟩ (.int .i64 (4 * (P.ar.yng : Int) + 1))).drew (P.lay r kd (l.map fun (k : Nat) => (k : Int))) by
          rw [hlay]
          exact ⟨h1, hin.1.same ((Keeps.refl (fun _ => False) _).drew), EP.out, K1.out.then (((K2.out.trans KR.out).trans hin.2).drew) O1.out, O1.out⟩)
        clear hin b0 bl p0 p3 pl gl2 hf hc hlay
        go_wp2_with fail
        go_ret
        refine ⟨by rw [HE.out]; rfl, ?_⟩
        rw [HE.out]
        exact TO.out
  · have HE := Lib.hid (HNO.out h0)
    have hd : (c != 0) = true := by simpa using h0
    have TO := Lib.hid ht
    clear h0 ht
    go_wp2_with fail
    go_ret
    exact ⟨by rw [HE.out]; rfl, by rw [HE.out]; exact TO.out⟩
end

end Go.Proofs.Ytjifdalflepcoac

namespace Go.Proofs.Ytjifdalflepcoac
open Go.RowKit
set_option linter.unusedVariables false
set_option linter.unusedSimpArgs false

def HDoRet (w : World) (h : HH) (O : Wo) (x : St) (e : Ending) (w' : World) : Prop := e = .returned (.int .i64 (O.do x).1) ∧ HeapTo w h w' (O.do x).2

section
variable {w w' : World} {h : HH} {O O' : Wo}

theorem h_get_R64 {A : Ar} (h : A.ok) (x i : Int) : R64 (A.get x i).1 := by
  unfold Ar.get
  split
  · unfold R64; decide
  · split
    · unfold R64; decide
    · exact h.load _

theorem h_encW (n : Int) (h : -big ≤ n ∧ n < big) : encW 1 n = (4 * n, 0) := by unfold encW; rw [if_neg (by decide), if_neg (by decide), if_pos rfl, if_pos h]

set_option maxHeartbeats 16000000 in
set_option maxRecDepth 100000 in
theorem HDoInt_c (xr xa xb xi xn : Int) (B : HeapAt w h O) :
    Calls Try.prog 15 #[.pointer (some ⟨h.p, 0, none⟩), .agg #[.int .i64 1, .int .i64 xr, .int .i64 xa, .int .i64 xb, .int .i64 xi, .int .i64 xn]] w (HDoRet w h O ⟨1, xr, xa, xb, xi, xn⟩) := by
  unfold HDoRet
  have HB0 := Lib.hid B
  have hb1 : Blk (w.alloc (.cells #[.int .i64 1, .int .i64 xr, .int .i64 xa, .int .i64 xb, .int .i64 xi, .int .i64 xn] 23)) w.heap.size [.int .i64 1, .int .i64 xr, .int .i64 xa, .int .i64 xb, .int .i64 xi, .int .i64 xn] 23 := Blk.newAt _ rfl rfl
  have ka := (Keeps.refl (fun _ => False) w).alloc (.cells #[.int .i64 1, .int .i64 xr, .int .i64 xa, .int .i64 xb, .int .i64 xi, .int .i64 xn] 23)
  have s0 := hb1.cell 0; have s1 := hb1.cell 1; have s2 := hb1.cell 2; have s3 := hb1.cell 3; have s4 := hb1.cell 4; have s5 := hb1.cell 5; have sl := hb1.lt
  simp only [List.getElem?_cons_zero, List.getElem?_cons_succ] at s0 s1 s2 s3 s4 s5
  have HSF := Lib.hid (fun w => Check_c ⟨1, xr, xa, xb, xi, xn⟩ w)
  obtain ⟨c, hc⟩ : ∃ c, checkM ⟨1, xr, xa, xb, xi, xn⟩ = c := ⟨_, rfl⟩
  rw [hc] at HSF
  have HC := Lib.hid hc
  have HB := Lib.hid hb1; have KA := Lib.hid ka
  clear hb1 hc ka B
  go_enter Try.func15, Try.ntmps15
  go_wp2_with (refine wpList_agg rfl 23 (.tmp 3) rfl [.int .i64 1, .int .i64 xr, .int .i64 xa, .int .i64 xb, .int .i64 xi, .int .i64 xn] (by kernel_rfl) w.heap.size 0 rfl (rangeAt_cons s0 (rangeAt_cons s1 (rangeAt_cons s2 (rangeAt_cons s3 (rangeAt_cons s4 (rangeAt_cons s5 rangeAt_nil)))))) ?_)
  refine (HSF.out _).mono ?_
  rintro e w1 ⟨rfl, hk⟩
  have HB1 := Lib.hid ((HB0.out.same KA.out).same hk)
  have K1 := Lib.hid (KA.out.trans hk)
  have SB1 := Lib.hid (hk.blk HB.out (fun h => h))
  have SFR := Lib.hid (show ¬ h.Own w.heap.size from fun e => by have := HB0.out.own_lt e; omega)
  clear hk s0 s1 s2 s3 s4 s5 sl HSF KA HB
  generalize w.heap.size = sb at *
  have s0 := SB1.out.cell 0; have s1 := SB1.out.cell 1; have s2 := SB1.out.cell 2; have s3 := SB1.out.cell 3; have s4 := SB1.out.cell 4; have s5 := SB1.out.cell 5; have sl := SB1.out.lt
  simp only [List.getElem?_cons_zero, List.getElem?_cons_succ] at s0 s1 s2 s3 s4 s5
  by_cases h0 : ¬ c = 0
  · have HE := Lib.hid (show O.do ⟨1, xr, xa, xb, xi, xn⟩ = (c, O) by unfold Wo.do; rw [HC.out, if_neg h0])
    have hd : (c != 0) = true := by simpa using h0
    clear h0
    go_wp2_with fail
    go_ret
    exact ⟨by rw [HE.out]; rfl, by rw [HE.out]; exact HeapTo.same HB0.out K1.out⟩
  have h0 : c = 0 := Classical.not_not.1 h0
  subst h0
  have hr : 0 ≤ xr ∧ xr < 12 := (rootOk_iff _).1 ((checkM_use HC.out).2.1 (show usesM 1 % 2 = 1 by decide))
  obtain ⟨r, rfl⟩ : ∃ r : Nat, xr = r := ⟨xr.toNat, by omega⟩
  have hr12 : r < 12 := by omega
  clear hr
  have hn : -big ≤ xn ∧ xn < big := (checkM_use HC.out).2.2.2.2.1 rfl
  have HE := Lib.hid (show O.do ⟨1, r, xa, xb, xi, xn⟩ = O.putC r (4 * xn, 0) by unfold Wo.do; rw [if_pos HC.out]; rfl)
  have HEN := Lib.hid (h_encW xn hn)
  have hx : R64 (4 * xn) := by unfold R64; have := hn.1; have := hn.2; unfold big at *; omega
  have hn64 : R64 xn := by unfold R64; have := hn.1; have := hn.2; unfold big at *; omega
  have HX := Lib.hid hx; have HN64 := Lib.hid hn64
  clear hn hx hn64
  go_wp2_with fail
  refine (Encode_c 1 xn _ HN64.out.1 HN64.out.2).mono ?_
  rintro e w2 ⟨rfl, hk⟩
  rw [HEN.out]
  have HB2 := Lib.hid (HB1.out.same hk); have K2 := Lib.hid (K1.out.trans hk); have SB2 := Lib.hid (hk.blk SB1.out (fun h => h))
  clear hk s0 s1 s2 s3 s4 s5 sl HB1 K1 SB1
  have s1 := SB2.out.cell 1; have sl := SB2.out.lt
  simp only [List.getElem?_cons_zero, List.getElem?_cons_succ] at s1
  go_wp2_with fail
  refine (HPut_c r (4 * xn) 0 HB2.out hr12 HX.out).mono ?_
  rintro e w3 ⟨rfl, ht⟩
  have TO := Lib.hid (HeapTo.from_same K2.out ht.to)
  clear ht s1 sl
  go_wp2_with fail
  go_ret
  exact ⟨by rw [HE.out]; rfl, by rw [HE.out]; exact TO.out⟩

set_option maxHeartbeats 16000000 in
set_option maxRecDepth 100000 in
theorem HDoGet_c (xr xa xb xi xn : Int) (B : HeapAt w h O) :
    Calls Try.prog 15 #[.pointer (some ⟨h.p, 0, none⟩), .agg #[.int .i64 11, .int .i64 xr, .int .i64 xa, .int .i64 xb, .int .i64 xi, .int .i64 xn]] w (HDoRet w h O ⟨11, xr, xa, xb, xi, xn⟩) := by
  unfold HDoRet
  have HB0 := Lib.hid B
  have hb1 : Blk (w.alloc (.cells #[.int .i64 11, .int .i64 xr, .int .i64 xa, .int .i64 xb, .int .i64 xi, .int .i64 xn] 23)) w.heap.size [.int .i64 11, .int .i64 xr, .int .i64 xa, .int .i64 xb, .int .i64 xi, .int .i64 xn] 23 := Blk.newAt _ rfl rfl
  have ka := (Keeps.refl (fun _ => False) w).alloc (.cells #[.int .i64 11, .int .i64 xr, .int .i64 xa, .int .i64 xb, .int .i64 xi, .int .i64 xn] 23)
  have s0 := hb1.cell 0; have s1 := hb1.cell 1; have s2 := hb1.cell 2; have s3 := hb1.cell 3; have s4 := hb1.cell 4; have s5 := hb1.cell 5; have sl := hb1.lt
  simp only [List.getElem?_cons_zero, List.getElem?_cons_succ] at s0 s1 s2 s3 s4 s5
  have HSF := Lib.hid (fun w => Check_c ⟨11, xr, xa, xb, xi, xn⟩ w)
  obtain ⟨c, hc⟩ : ∃ c, checkM ⟨11, xr, xa, xb, xi, xn⟩ = c := ⟨_, rfl⟩
  rw [hc] at HSF
  have HC := Lib.hid hc
  have HB := Lib.hid hb1; have KA := Lib.hid ka
  clear hb1 hc ka B
  go_enter Try.func15, Try.ntmps15
  go_wp2_with (refine wpList_agg rfl 23 (.tmp 3) rfl [.int .i64 11, .int .i64 xr, .int .i64 xa, .int .i64 xb, .int .i64 xi, .int .i64 xn] (by kernel_rfl) w.heap.size 0 rfl (rangeAt_cons s0 (rangeAt_cons s1 (rangeAt_cons s2 (rangeAt_cons s3 (rangeAt_cons s4 (rangeAt_cons s5 rangeAt_nil)))))) ?_)
  refine (HSF.out _).mono ?_
  rintro e w1 ⟨rfl, hk⟩
  have HB1 := Lib.hid ((HB0.out.same KA.out).same hk)
  have K1 := Lib.hid (KA.out.trans hk)
  have SB1 := Lib.hid (hk.blk HB.out (fun h => h))
  have SFR := Lib.hid (show ¬ h.Own w.heap.size from fun e => by have := HB0.out.own_lt e; omega)
  clear hk s0 s1 s2 s3 s4 s5 sl HSF KA HB
  generalize w.heap.size = sb at *
  have s0 := SB1.out.cell 0; have s1 := SB1.out.cell 1; have s2 := SB1.out.cell 2; have s3 := SB1.out.cell 3; have s4 := SB1.out.cell 4; have s5 := SB1.out.cell 5; have sl := SB1.out.lt
  simp only [List.getElem?_cons_zero, List.getElem?_cons_succ] at s0 s1 s2 s3 s4 s5
  by_cases h0 : ¬ c = 0
  · have HE := Lib.hid (show O.do ⟨11, xr, xa, xb, xi, xn⟩ = (c, O) by unfold Wo.do; rw [HC.out, if_neg h0])
    have hd : (c != 0) = true := by simpa using h0
    clear h0
    go_wp2_with fail
    go_ret
    exact ⟨by rw [HE.out]; rfl, by rw [HE.out]; exact HeapTo.same HB0.out K1.out⟩
  have h0 : c = 0 := Classical.not_not.1 h0
  subst h0
  have hr : 0 ≤ xr ∧ xr < 12 := (rootOk_iff _).1 ((checkM_use HC.out).2.1 (show usesM 11 % 2 = 1 by decide))
  obtain ⟨r, rfl⟩ : ∃ r : Nat, xr = r := ⟨xr.toNat, by omega⟩
  have hr12 : r < 12 := by omega
  clear hr
  have ha : 0 ≤ xa ∧ xa < 12 := (rootOk_iff _).1 ((checkM_use HC.out).2.2.1 (show usesM 11 / 2 % 2 = 1 by decide))
  obtain ⟨a, rfl⟩ : ∃ a : Nat, xa = a := ⟨xa.toNat, by omega⟩
  have ha12 : a < 12 := by omega
  clear ha
  have HE := Lib.hid (show O.do ⟨11, r, a, xb, xi, xn⟩ = O.putC r (O.ar.get (O.rtA a) xi) by unfold Wo.do; rw [if_pos HC.out]; rfl)
  obtain ⟨b0, bl⟩ := HB1.out.pc
  obtain ⟨g, o, cap, hro, hown, q0, q3, ql, gl, fz, rc⟩ := HB1.out.roots
  have ra := rc a ha12
  have ha12i : (a : Int) < 12 := by omega
  clear hro hown fz rc
  have hget := Get_c (O.rtA a) xi (HB1.out.same ((Keeps.refl (fun _ => False) w1).drew)).H
  have HYR := Lib.hid (h_get_R64 HB1.out.H.ok.ha (O.rtA a) xi)
  generalize O.rtA (a : Int) = va at *
  obtain ⟨⟨y, e⟩, hS⟩ : ∃ t, O.ar.get va xi = t := ⟨_, rfl⟩
  rw [hS] at hget HE HYR
  have HGET := Lib.hid hget
  clear hS hget
  go_wp2_with fail
  refine wp_region_ro (.free 0 (.free 1 (.free 2 (.free 4 (.free 5 (.free 6 (.free 11 (.free 15 (.pure 3 (.pure 7 (.free 8 (.free 9 (.pure 10 (.pure 12 (.free 13 (.pure 14 (.pure 16 (.run 17 (.swi [] (.free 18 (.free 19 (.free 20 (.free 21 (.free 22 (.fin))))))))))))))))))))))))) [17, 18, 19, 20, 21, 22] (fun w' => w'.cell? ⟨h.p, 0, none⟩ = some (.pointer (some ⟨h.a.p, 0, none⟩)) ∧ w'.cell? ⟨h.a.p, 3, none⟩ = some (.slice (some ⟨g, o, none⟩) 12 cap) ∧ w'.cell? ⟨g, o + a, none⟩ = some (.int .i64 va) ∧ w'.cell? ⟨sb, 2, none⟩ = some (.int .i64 a) ∧ w'.cell? ⟨sb, 4, none⟩ = some (.int .i64 xi)) (by kernel_rfl) (by kernel_rfl) ⟨b0, q3, ra, s2, s4⟩ ?_
  first | (refine wpRO_free rfl rfl _ (fun w' => by go_simp; exact Gives.mk _ _) (fun K hK => ?_); go_simp; refine hK _ ?_; clear hK K) | (refine wpRO_skipF rfl rfl (fun K hK => ?_); go_simp; refine hK _ ?_; clear hK K)
  first | (refine wpRO_free rfl rfl _ (fun w' => by go_simp; exact Gives.mk _ _) (fun K hK => ?_); go_simp; refine hK _ ?_; clear hK K) | (refine wpRO_skipF rfl rfl (fun K hK => ?_); go_simp; refine hK _ ?_; clear hK K)
  first | (refine wpRO_free rfl rfl _ (fun w' => by go_simp; exact Gives.mk _ _) (fun K hK => ?_); go_simp; refine hK _ ?_; clear hK K) | (refine wpRO_skipF rfl rfl (fun K hK => ?_); go_simp; refine hK _ ?_; clear hK K)
  first | (refine wpRO_free rfl rfl _ (fun w' => by go_simp; exact Gives.mk _ _) (fun K hK => ?_); go_simp; refine hK _ ?_; clear hK K) | (refine wpRO_skipF rfl rfl (fun K hK => ?_); go_simp; refine hK _ ?_; clear hK K)
  first | (refine wpRO_free rfl rfl _ (fun w' => by go_simp; exact Gives.mk _ _) (fun K hK => ?_); go_simp; refine hK _ ?_; clear hK K) | (refine wpRO_skipF rfl rfl (fun K hK => ?_); go_simp; refine hK _ ?_; clear hK K)
  first | (refine wpRO_free rfl rfl _ (fun w' => by go_simp; exact Gives.mk _ _) (fun K hK => ?_); go_simp; refine hK _ ?_; clear hK K) | (refine wpRO_skipF rfl rfl (fun K hK => ?_); go_simp; refine hK _ ?_; clear hK K)
  first | (refine wpRO_free rfl rfl _ (fun w' => by go_simp; exact Gives.mk _ _) (fun K hK => ?_); go_simp; refine hK _ ?_; clear hK K) | (refine wpRO_skipF rfl rfl (fun K hK => ?_); go_simp; refine hK _ ?_; clear hK K)
  first | (refine wpRO_free rfl rfl _ (fun w' => by go_simp; exact Gives.mk _ _) (fun K hK => ?_); go_simp; refine hK _ ?_; clear hK K) | (refine wpRO_skipF rfl rfl (fun K hK => ?_); go_simp; refine hK _ ?_; clear hK K)
  first | (refine wpRO_pure rfl rfl _ (fun w' hG => by obtain ⟨b0, q3, ra, s2, s4⟩ := hG; exact gives_agg2 rfl (by decide +kernel) rfl (by assumption) (by assumption)) (fun K hK => ?_); go_simp; refine hK _ ?_; clear hK K) | (refine wpRO_pure rfl rfl _ (fun w' hG => by obtain ⟨b0, q3, ra, s2, s4⟩ := hG; go_simp; exact Gives.mk _ _) (fun K hK => ?_); go_simp; refine hK _ ?_; clear hK K) | (refine wpRO_skip rfl rfl (fun K hK => ?_); go_simp; refine hK _ ?_; clear hK K)
  first | (refine wpRO_pure rfl rfl _ (fun w' hG => by obtain ⟨b0, q3, ra, s2, s4⟩ := hG; exact gives_agg2 rfl (by decide +kernel) rfl (by assumption) (by assumption)) (fun K hK => ?_); go_simp; refine hK _ ?_; clear hK K) | (refine wpRO_pure rfl rfl _ (fun w' hG => by obtain ⟨b0, q3, ra, s2, s4⟩ := hG; go_simp; exact Gives.mk _ _) (fun K hK => ?_); go_simp; refine hK _ ?_; clear hK K) | (refine wpRO_skip rfl rfl (fun K hK => ?_); go_simp; refine hK _ ?_; clear hK K)
  first | (refine wpRO_free rfl rfl _ (fun w' => by go_simp; exact Gives.mk _ _) (fun K hK => ?_); go_simp; refine hK _ ?_; clear hK K) | (refine wpRO_skipF rfl rfl (fun K hK => ?_); go_simp; refine hK _ ?_; clear hK K)
  first | (refine wpRO_free rfl rfl _ (fun w' => by go_simp; exact Gives.mk _ _) (fun K hK => ?_); go_simp; refine hK _ ?_; clear hK K) | (refine wpRO_skipF rfl rfl (fun K hK => ?_); go_simp; refine hK _ ?_; clear hK K)
  first | (refine wpRO_pure rfl rfl _ (fun w' hG => by obtain ⟨b0, q3, ra, s2, s4⟩ := hG; exact gives_agg2 rfl (by decide +kernel) rfl (by assumption) (by assumption)) (fun K hK => ?_); go_simp; refine hK _ ?_; clear hK K) | (refine wpRO_pure rfl rfl _ (fun w' hG => by obtain ⟨b0, q3, ra, s2, s4⟩ := hG; go_simp; exact Gives.mk _ _) (fun K hK => ?_); go_simp; refine hK _ ?_; clear hK K) | (refine wpRO_skip rfl rfl (fun K hK => ?_); go_simp; refine hK _ ?_; clear hK K)
  first | (refine wpRO_pure rfl rfl _ (fun w' hG => by obtain ⟨b0, q3, ra, s2, s4⟩ := hG; exact gives_agg2 rfl (by decide +kernel) rfl (by assumption) (by assumption)) (fun K hK => ?_); go_simp; refine hK _ ?_; clear hK K) | (refine wpRO_pure rfl rfl _ (fun w' hG => by obtain ⟨b0, q3, ra, s2, s4⟩ := hG; go_simp; exact Gives.mk _ _) (fun K hK => ?_); go_simp; refine hK _ ?_; clear hK K) | (refine wpRO_skip rfl rfl (fun K hK => ?_); go_simp; refine hK _ ?_; clear hK K)
  first | (refine wpRO_free rfl rfl _ (fun w' => by go_simp; exact Gives.mk _ _) (fun K hK => ?_); go_simp; refine hK _ ?_; clear hK K) | (refine wpRO_skipF rfl rfl (fun K hK => ?_); go_simp; refine hK _ ?_; clear hK K)
  first | (refine wpRO_pure rfl rfl _ (fun w' hG => by obtain ⟨b0, q3, ra, s2, s4⟩ := hG; exact gives_agg2 rfl (by decide +kernel) rfl (by assumption) (by assumption)) (fun K hK => ?_); go_simp; refine hK _ ?_; clear hK K) | (refine wpRO_pure rfl rfl _ (fun w' hG => by obtain ⟨b0, q3, ra, s2, s4⟩ := hG; go_simp; exact Gives.mk _ _) (fun K hK => ?_); go_simp; refine hK _ ?_; clear hK K) | (refine wpRO_skip rfl rfl (fun K hK => ?_); go_simp; refine hK _ ?_; clear hK K)
  first | (refine wpRO_pure rfl rfl _ (fun w' hG => by obtain ⟨b0, q3, ra, s2, s4⟩ := hG; exact gives_agg2 rfl (by decide +kernel) rfl (by assumption) (by assumption)) (fun K hK => ?_); go_simp; refine hK _ ?_; clear hK K) | (refine wpRO_pure rfl rfl _ (fun w' hG => by obtain ⟨b0, q3, ra, s2, s4⟩ := hG; go_simp; exact Gives.mk _ _) (fun K hK => ?_); go_simp; refine hK _ ?_; clear hK K) | (refine wpRO_skip rfl rfl (fun K hK => ?_); go_simp; refine hK _ ?_; clear hK K)
  refine wpRO_chg rfl rfl rfl (fun K hK => ?_); unfold gRun; go_simp
  refine HGET.out.mono ?_
  rintro e3 w3 ⟨rfl, rfl⟩
  refine hK _ _ ?_
  clear hK K
  refine wpRO_swi (fun _ => True) trivial ?_
  first | (refine wpRO_free rfl rfl _ (fun w' => by go_simp; exact Gives.mk _ _) (fun K hK => ?_); go_simp; refine hK _ ?_; clear hK K) | (refine wpRO_skipF rfl rfl (fun K hK => ?_); go_simp; refine hK _ ?_; clear hK K)
  first | (refine wpRO_free rfl rfl _ (fun w' => by go_simp; exact Gives.mk _ _) (fun K hK => ?_); go_simp; refine hK _ ?_; clear hK K) | (refine wpRO_skipF rfl rfl (fun K hK => ?_); go_simp; refine hK _ ?_; clear hK K)
  first | (refine wpRO_free rfl rfl _ (fun w' => by go_simp; exact Gives.mk _ _) (fun K hK => ?_); go_simp; refine hK _ ?_; clear hK K) | (refine wpRO_skipF rfl rfl (fun K hK => ?_); go_simp; refine hK _ ?_; clear hK K)
  first | (refine wpRO_free rfl rfl _ (fun w' => by go_simp; exact Gives.mk _ _) (fun K hK => ?_); go_simp; refine hK _ ?_; clear hK K) | (refine wpRO_skipF rfl rfl (fun K hK => ?_); go_simp; refine hK _ ?_; clear hK K)
  first | (refine wpRO_free rfl rfl _ (fun w' => by go_simp; exact Gives.mk _ _) (fun K hK => ?_); go_simp; refine hK _ ?_; clear hK K) | (refine wpRO_skipF rfl rfl (fun K hK => ?_); go_simp; refine hK _ ?_; clear hK K)
  refine wpRO_fin ?_
  have kd := (Keeps.refl (fun _ => False) w1).drew
  have HB2 := Lib.hid (HB1.out.same kd); have K2 := Lib.hid (K1.out.trans kd); have SB2 := Lib.hid (kd.blk SB1.out (fun h => h))
  clear kd s0 s1 s2 s3 s4 s5 sl HB1 K1 SB1 b0 bl q0 q3 ql gl ra HGET
  have s1 := SB2.out.cell 1; have sl := SB2.out.lt
  simp only [List.getElem?_cons_zero, List.getElem?_cons_succ] at s1
  go_wp2_with fail
  refine (HPut_c r y e HB2.out hr12 HYR.out).mono ?_
  rintro e' w3 ⟨rfl, ht⟩
  have TO := Lib.hid (HeapTo.from_same K2.out ht.to)
  clear ht s1 sl
  go_wp2_with fail
  go_ret
  exact ⟨by rw [HE.out]; rfl, by rw [HE.out]; exact TO.out⟩

/-- A pair, where making room is known. -/
def RoomOk (h : HH) (O : Wo) (n : Int) : Prop := (∀ w', HeapAt w' h O → Calls Try.prog 42 #[.pointer (some ⟨h.p, 0, none⟩), .int .i64 n] w' (RoomRet w' h O n)) ∧ ((O.room n).1 = 0 → n ≤ ((O.room n).2.ar.nur : Int) - (O.room n).2.ar.yng)

theorem RoomOk.yes {n : Int} (hn : n ≤ (O.ar.nur : Int) - O.ar.yng) : RoomOk h O n := ⟨fun w' B => HRoom_yes n B hn, fun _ => by unfold Wo.room; rw [if_pos hn]; exact hn⟩

set_option maxHeartbeats 16000000 in
set_option maxRecDepth 100000 in
theorem HDoPair_c (xr xa xb xi xn : Int) (B : HeapAt w h O) (hroom : RoomOk h O 3) :
    Calls Try.prog 15 #[.pointer (some ⟨h.p, 0, none⟩), .agg #[.int .i64 4, .int .i64 xr, .int .i64 xa, .int .i64 xb, .int .i64 xi, .int .i64 xn]] w (HDoRet w h O ⟨4, xr, xa, xb, xi, xn⟩) := by
  unfold HDoRet
  have HRM := Lib.hid hroom
  clear hroom
  have HB0 := Lib.hid B
  have hb1 : Blk (w.alloc (.cells #[.int .i64 4, .int .i64 xr, .int .i64 xa, .int .i64 xb, .int .i64 xi, .int .i64 xn] 23)) w.heap.size [.int .i64 4, .int .i64 xr, .int .i64 xa, .int .i64 xb, .int .i64 xi, .int .i64 xn] 23 := Blk.newAt _ rfl rfl
  have ka := (Keeps.refl (fun _ => False) w).alloc (.cells #[.int .i64 4, .int .i64 xr, .int .i64 xa, .int .i64 xb, .int .i64 xi, .int .i64 xn] 23)
  have s0 := hb1.cell 0; have s1 := hb1.cell 1; have s2 := hb1.cell 2; have s3 := hb1.cell 3; have s4 := hb1.cell 4; have s5 := hb1.cell 5; have sl := hb1.lt
  simp only [List.getElem?_cons_zero, List.getElem?_cons_succ] at s0 s1 s2 s3 s4 s5
  have HSF := Lib.hid (fun w => Check_c ⟨4, xr, xa, xb, xi, xn⟩ w)
  obtain ⟨c, hc⟩ : ∃ c, checkM ⟨4, xr, xa, xb, xi, xn⟩ = c := ⟨_, rfl⟩
  rw [hc] at HSF
  have HC := Lib.hid hc
  have HB := Lib.hid hb1; have KA := Lib.hid ka
  clear hb1 hc ka B
  go_enter Try.func15, Try.ntmps15
  go_wp2_with (refine wpList_agg rfl 23 (.tmp 3) rfl [.int .i64 4, .int .i64 xr, .int .i64 xa, .int .i64 xb, .int .i64 xi, .int .i64 xn] (by kernel_rfl) w.heap.size 0 rfl (rangeAt_cons s0 (rangeAt_cons s1 (rangeAt_cons s2 (rangeAt_cons s3 (rangeAt_cons s4 (rangeAt_cons s5 rangeAt_nil)))))) ?_)
  refine (HSF.out _).mono ?_
  rintro e w1 ⟨rfl, hk⟩
  have HB1 := Lib.hid ((HB0.out.same KA.out).same hk)
  have K1 := Lib.hid (KA.out.trans hk)
  have SB1 := Lib.hid (hk.blk HB.out (fun h => h))
  have SFR := Lib.hid (show ¬ h.Own w.heap.size from fun e => by have := HB0.out.own_lt e; omega)
  clear hk s0 s1 s2 s3 s4 s5 sl HSF KA HB
  generalize w.heap.size = sb at *
  have s0 := SB1.out.cell 0; have s1 := SB1.out.cell 1; have s2 := SB1.out.cell 2; have s3 := SB1.out.cell 3; have s4 := SB1.out.cell 4; have s5 := SB1.out.cell 5; have sl := SB1.out.lt
  simp only [List.getElem?_cons_zero, List.getElem?_cons_succ] at s0 s1 s2 s3 s4 s5
  by_cases h0 : ¬ c = 0
  · have HE := Lib.hid (show O.do ⟨4, xr, xa, xb, xi, xn⟩ = (c, O) by unfold Wo.do; rw [HC.out, if_neg h0])
    have hd : (c != 0) = true := by simpa using h0
    clear h0
    go_wp2_with fail
    go_ret
    exact ⟨by rw [HE.out]; rfl, by rw [HE.out]; exact HeapTo.same HB0.out K1.out⟩
  have h0 : c = 0 := Classical.not_not.1 h0
  subst h0
  have hr : 0 ≤ xr ∧ xr < 12 := (rootOk_iff _).1 ((checkM_use HC.out).2.1 (show usesM 4 % 2 = 1 by decide))
  obtain ⟨r, rfl⟩ : ∃ r : Nat, xr = r := ⟨xr.toNat, by omega⟩
  have hr12 : r < 12 := by omega
  clear hr
  have ha : 0 ≤ xa ∧ xa < 12 := (rootOk_iff _).1 ((checkM_use HC.out).2.2.1 (show usesM 4 / 2 % 2 = 1 by decide))
  obtain ⟨a, rfl⟩ : ∃ a : Nat, xa = a := ⟨xa.toNat, by omega⟩
  have ha12 : a < 12 := by omega
  clear ha
  have hb : 0 ≤ xb ∧ xb < 12 := (rootOk_iff _).1 ((checkM_use HC.out).2.2.2.1 (show usesM 4 / 4 % 2 = 1 by decide))
  obtain ⟨b, rfl⟩ : ∃ b : Nat, xb = b := ⟨xb.toNat, by omega⟩
  have hb12 : b < 12 := by omega
  clear hb
  have HE := Lib.hid (show O.do ⟨4, r, a, b, xi, xn⟩ = O.newT r 1 ([a, b].map fun (k : Nat) => (k : Int)) by unfold Wo.do; rw [if_pos HC.out]; rfl)
  have ka := (Keeps.refl (fun _ => False) w1).alloc (.cells #[.int .i64 a, .int .i64 b] 3)
  have hbl : Blk (w1.alloc (.cells #[.int .i64 a, .int .i64 b] 3)) w1.heap.size [.int .i64 a, .int .i64 b] 3 := Blk.newAt _ rfl rfl
  have hmk := HMake_c r 1 [a, b] (some ⟨w1.heap.size, 0, none⟩) 2 (HB1.out.same ka) hr12 (by intro k hk; simp at hk; omega) (show fitsW 1 2 = true by decide) (Rd.blk hbl 0 _ rfl) (fun ad e hb hn => by cases e; have := HB1.out.own_lt hn; simp at this) (HRM.out.1 _ (HB1.out.same ka)) HRM.out.2
  have HMK := Lib.hid hmk
  have HKA := Lib.hid ka
  clear ka hbl hmk
  go_wp2_with fail
  refine HMK.out.mono ?_
  rintro e w3 ⟨rfl, ht⟩
  have TO := Lib.hid (HeapTo.from_same (K1.out.trans HKA.out) ht)
  clear ht s0 s1 s2 s3 s4 s5 sl
  go_wp2_with fail
  go_ret
  exact ⟨by rw [HE.out]; rfl, by rw [HE.out]; exact TO.out⟩
end

end Go.Proofs.Ytjifdalflepcoac

namespace Go.Proofs.Ytjifdalflepcoac
open Go.ChangeShapes Go.WideShapes Go.ChangeAt Go.RowKit Go.Joins
set_option linter.unusedVariables false
set_option linter.unusedSimpArgs false

section
variable {H : Type} {enc : TypeId × Value → H} {w : World} {base : Nat} {spare : Nat → Bool} {held : Bool}

theorem arg_vals {P : Program} {r : Reach} {b0 : Nat} {t : TypeId} {fs : Array Field} {v : Value} {d : DataW H} {p : List MemPlace} (hs : P.underlying t = some (.struct fs)) (hfl : Flat enc P w base spare held t)
    (hv : Value.okWide P w r b0 t v) (h : DataW.Trod enc P w base spare held t v d p) :
    ∃ l : List Int, v = .agg (l.map (Value.int .i64)).toArray ∧ l.length = P.cellsOf t ∧ ∀ x ∈ l, R64 x := by
  obtain ⟨cs, rfl, hsz⟩ := okWide_struct hs hv
  obtain ⟨fuel, hf⟩ := h
  obtain ⟨h1, h2⟩ := hfl fuel _ _ hf
  obtain ⟨l, hl, hb⟩ := i64_list h2
  refine ⟨l, ?_, ?_, hb⟩
  · rw [← hl]; simp [Value.cells]
  · have := congrArg List.length hl
    rw [h1] at this
    simpa using this.symm

set_option maxRecDepth 100000 in
theorem flat_step : Flat enc Try.prog w base spare held 23 := by
  refine flat_struct Try.underlying23 (by kernel_rfl) ?_
  intro i f hf
  match i with
  | 0 => simp at hf; subst hf; exact (flat_int Try.underlying3 (by kernel_rfl))
  | 1 => simp at hf; subst hf; exact (flat_int Try.underlying3 (by kernel_rfl))
  | 2 => simp at hf; subst hf; exact (flat_int Try.underlying3 (by kernel_rfl))
  | 3 => simp at hf; subst hf; exact (flat_int Try.underlying3 (by kernel_rfl))
  | 4 => simp at hf; subst hf; exact (flat_int Try.underlying3 (by kernel_rfl))
  | 5 => simp at hf; subst hf; exact (flat_int Try.underlying2 (by kernel_rfl))
  | i + 6 => simp at hf

set_option maxRecDepth 100000 in
theorem arg_step {r : Reach} {b0 : Nat} {v : Value} {d : DataW H} {p : List MemPlace} (hv : Value.okWide Try.prog w r b0 23 v) (h : DataW.Trod enc Try.prog w base spare held 23 v d p) :
    ∃ x : St, v = .agg #[.int .i64 x.k, .int .i64 x.r, .int .i64 x.a, .int .i64 x.b, .int .i64 x.i, .int .i64 x.n] ∧ R64 x.n := by
  obtain ⟨l, e, hl, hb⟩ := arg_vals Try.underlying23 flat_step hv h
  have hc : Try.prog.cellsOf 23 = 6 := by kernel_rfl
  rw [hc] at hl
  match l, hl with
  | [k, r, a, b, i, n], _ => exact ⟨⟨k, r, a, b, i, n⟩, e, hb n (by simp)⟩
end
end Go.Proofs.Ytjifdalflepcoac

namespace Go.Proofs.Ytjifdalflepcoac
open Go.RowKit
set_option linter.unusedVariables false
set_option linter.unusedSimpArgs false

def hB1 : Wo := ((Wo.new 16 8).do ⟨1, 0, 0, 0, 0, 7⟩).2
def hB2 : Wo := (hB1.do ⟨4, 1, 0, 0, 0, 0⟩).2
def hB3 : Wo := (hB2.do ⟨11, 2, 1, 0, 2, 0⟩).2
theorem hb1 : ((Wo.new 16 8).do ⟨1, 0, 0, 0, 0, 7⟩).1 = 0 := by decide +kernel
theorem hb2 : (hB1.do ⟨4, 1, 0, 0, 0, 0⟩).1 = 0 := by decide +kernel
theorem hb3 : (hB2.do ⟨11, 2, 1, 0, 2, 0⟩).1 = 1 := by decide +kernel
theorem hbr : 3 ≤ (hB1.ar.nur : Int) - hB1.ar.yng := by decide +kernel
theorem hbv : hB3.view.2 = [(1, [(1, 7), (1, 7)])] := by decide +kernel
theorem hbu : usesM 9 = 6 := by decide

section
variable {w w' : World}

/-- A heap of a statement: all its blocks are new. -/
structure HM (w0 w : World) (p : Nat) (h : HH) (O : Wo) : Prop where
  B : HeapAt w h O
  e : h.p = p
  K : Keeps (fun _ => False) w0 w
  own : ∀ k, h.Own k → w0.heap.size ≤ k

theorem HM.to {w0 : World} {p : Nat} {h : HH} {O O' : Wo} (M : HM w0 w p h O) (t : HeapTo w h w' O') : ∃ h', HM w0 w' p h' O' := by
  obtain ⟨h', H', e', k', o'⟩ := t
  refine ⟨h', H', e'.trans M.e, M.K.then k' (fun b hb => .inr (M.own b hb)), fun b hb => ?_⟩
  rcases o' b hb with h1 | h1
  · exact M.own b h1
  · have := M.K.size; omega

theorem HM.same {w0 : World} {p : Nat} {h : HH} {O : Wo} (M : HM w0 w p h O) (k : Keeps (fun _ => False) w w') : HM w0 w' p h O := ⟨M.B.same k, M.e, M.K.trans k, M.own⟩

theorem HM.pc {w0 : World} {p : Nat} {h : HH} {O : Wo} (M : HM w0 w p h O) : w.cell? ⟨p, 0, none⟩ = some (.pointer (some ⟨h.a.p, 0, none⟩)) ∧ p < w.heap.size := by
  have := M.B.pc
  rw [M.e] at this
  exact this

set_option maxHeartbeats 16000000 in
set_option maxRecDepth 100000 in
theorem heapBegun_c (w : World) : Calls Try.prog 6 #[] w fun e w' => e = .returned (.bool true) ∧ Keeps (fun _ => False) w w' := by
  have hfit : Ar.fits 16 8 = true := by decide
  go_enter Try.func6, Try.ntmps6
  go_wp2_with fail
  refine (HNew_yes 16 8 w hfit).mono ?_
  rintro e w1 ⟨h, rfl, B1, k1, o1⟩
  have ka := (Keeps.refl (fun _ => False) w1).alloc (.cells #[.int .i64 0, .int .i64 0] 31)
  have M1 := Lib.hid (show HM w (w1.alloc (.cells #[.int .i64 0, .int .i64 0] 31)) h.p h _ from ⟨B1.same ka, rfl, k1.trans ka, o1⟩)
  have d0 : (w1.alloc (.cells #[.int .i64 0, .int .i64 0] 31)).cell? ⟨w1.heap.size, 0, none⟩ = some (.int .i64 0) := (Blk.new w1 [.int .i64 0, .int .i64 0] 31).cell 0
  have dl : w1.heap.size < (w1.alloc (.cells #[.int .i64 0, .int .i64 0] 31)).heap.size := by simp
  clear B1 k1 o1 hfit ka
  go_upto_region 2 with (fail)
  generalize w1.alloc (.cells #[.int .i64 0, .int .i64 0] 31) = w2 at *
  generalize w1.heap.size = fb at *
  have c1 := HDoInt_c 0 0 0 0 7 M1.out.B
  rw [M1.out.e] at c1
  unfold HDoRet at c1
  rw [hb1] at c1
  have C1 := Lib.hid c1
  clear c1
  generalize h.p = p at *
  go_wp2_with fail
  refine C1.out.mono ?_
  rintro e w3 ⟨rfl, ht⟩
  obtain ⟨h2, hM2⟩ := M1.out.to ht
  have M2 := Lib.hid (show HM w w3 p h2 hB1 from hM2)
  clear ht hM2 M1 C1 d0 dl
  have c2 := HDoPair_c 1 0 0 0 0 M2.out.B (RoomOk.yes hbr)
  rw [M2.out.e] at c2
  unfold HDoRet at c2
  rw [hb2] at c2
  have C2 := Lib.hid c2
  clear c2
  go_wp2_with fail
  refine C2.out.mono ?_
  rintro e w4 ⟨rfl, ht⟩
  obtain ⟨h3, hM3⟩ := M2.out.to ht
  have M3 := Lib.hid (show HM w w4 p h3 hB2 from hM3)
  clear ht hM3 M2 C2
  have c3 := HDoGet_c 2 1 0 2 0 M3.out.B
  rw [M3.out.e] at c3
  unfold HDoRet at c3
  rw [hb3] at c3
  have C3 := Lib.hid c3
  clear c3
  go_wp2_with fail
  refine C3.out.mono ?_
  rintro e w5 ⟨rfl, ht⟩
  obtain ⟨h4, hM4⟩ := M3.out.to ht
  have M4 := Lib.hid (show HM w w5 p h4 hB3 from hM4)
  clear ht hM4 M3 C3
  obtain ⟨c0, pl⟩ := M4.out.pc
  go_wp2_with fail
  refine (View_c _ M4.out.B.H).mono ?_
  rintro e w6 ⟨v, rfl, ⟨ro, rc, no, nc, F, rfl, -, hn, -⟩, hk⟩
  have K6 := Lib.hid (M4.out.K.trans hk)
  rw [hbv] at hn ⊢
  obtain ⟨_, _, e', N⟩ := hn.nth
  cases e'
  obtain ⟨g, o, ao, ac, rfl, gl, x0, x1, rd, -⟩ := N 0 (by decide)
  obtain ⟨g2, o2, rfl, gl2, y0, y1⟩ := rd.val 0 (by decide)
  generalize hB3.view.1.length = vl at *
  simp only [List.getD_cons_zero, Nat.zero_mul, Nat.add_zero] at x0 x1 y0 y1
  have l1 : ([(1, [(1, 7), (1, 7)])] : List Nd).length = 1 := rfl
  have l2 : ([(1, 7), (1, 7)] : List Vl).length = 2 := rfl
  rw [l1]
  rw [l2] at x1
  have hfd : ∀ w : World, (Instr.field 47 (.agg #[.slice ro vl rc, .slice (some ⟨g, o, none⟩) 1 nc]) 1).run Try.prog w = .ok (.slice (some ⟨g, o, none⟩) 1 nc) w := fun _ => by kernel_rfl
  have U := Lib.hid (Uses_c 9 w6)
  clear c0 pl hk M4 hn N rd l1 l2 x0 y0
  go_wp2_with fail
  refine U.out.mono ?_
  rintro e w7 ⟨rfl, rfl⟩
  rw [hbu]
  go_wp2_with fail
  go_ret
  exact ⟨rfl, K6.out⟩

set_option maxHeartbeats 16000000 in
set_option maxRecDepth 100000 in
theorem HeapChecks_raw (x : St) (k : Int) (w : World) :
    Calls Try.prog 3 #[.agg #[.int .i64 x.k, .int .i64 x.r, .int .i64 x.a, .int .i64 x.b, .int .i64 x.i, .int .i64 x.n], .int .i64 k] w fun e w' => e = .returned (.bool true) ∧ Keeps (fun _ => False) w w' := by
  have C1 := Lib.hid (fun w => Check_c x w)
  have C2 := Lib.hid (fun w => RStepFault_c x w)
  have U1 := Lib.hid (fun w => Uses_c k w); have U2 := Lib.hid (fun w => RUsesOf_c k w)
  have U3 := Lib.hid (fun w => Uses_c x.k w); have U4 := Lib.hid (fun w => RUsesOf_c x.k w)
  obtain ⟨xk, xr, xa, xb, xi, xn⟩ := x
  dsimp only at C1 C2 U3 U4 ⊢
  generalize checkM ⟨xk, xr, xa, xb, xi, xn⟩ = c at *
  generalize usesM k = u at *
  generalize usesM xk = v at *
  have hb1 : Blk (w.alloc (.cells #[.int .i64 xk, .int .i64 xr, .int .i64 xa, .int .i64 xb, .int .i64 xi, .int .i64 xn] 23)) w.heap.size [.int .i64 xk, .int .i64 xr, .int .i64 xa, .int .i64 xb, .int .i64 xi, .int .i64 xn] 23 := Blk.newAt _ rfl rfl
  have ka := (Keeps.refl (fun _ => False) w).alloc (.cells #[.int .i64 xk, .int .i64 xr, .int .i64 xa, .int .i64 xb, .int .i64 xi, .int .i64 xn] 23)
  go_enter Try.func3, Try.ntmps3
  go_wp2_with fail
  generalize w.alloc (.cells #[.int .i64 xk, .int .i64 xr, .int .i64 xa, .int .i64 xb, .int .i64 xi, .int .i64 xn] 23) = w1 at *
  generalize w.heap.size = sb at *
  refine (heapBegun_c _).mono ?_
  rintro e w2 ⟨rfl, hk⟩
  have K2 := Lib.hid (ka.trans hk); have SB := Lib.hid (hk.blk hb1 (fun h => h))
  clear ka hk hb1
  have s0 := SB.out.cell 0; have s1 := SB.out.cell 1; have s2 := SB.out.cell 2; have s3 := SB.out.cell 3; have s4 := SB.out.cell 4; have s5 := SB.out.cell 5; have sl := SB.out.lt
  simp only [List.getElem?_cons_zero, List.getElem?_cons_succ] at s0 s1 s2 s3 s4 s5
  go_wp2_with fail
  refine wp_region_ro (.pure 0 (.pure 2 (.run 1 (.run 3 (.swi [7, 9, 10, 11, 12, 13, 14, 15, 16, 17, 18, 19, 20, 21] (.free 4 (.free 5 (.free 6 (.free 8 (.run 7 (.swi [9, 10, 11, 12, 13, 14, 15, 16, 17, 18, 19, 20, 21] (.run 9 (.swi [18, 19, 20, 21] (.free 10 (.free 11 (.free 12 (.free 13 (.free 16 (.pure 14 (.pure 17 (.run 15 (.run 18 (.swi [] (.free 19 (.free 20 (.free 21 (.fin))))))))))))))))))))))))))) [3, 4, 5, 6, 7, 8, 9, 10, 11, 12, 13, 14, 15, 16, 17, 18, 19, 20, 21] (fun w' => w'.cell? ⟨sb, 0, none⟩ = some (.int .i64 xk) ∧ w'.cell? ⟨sb, 0 + 1, none⟩ = some (.int .i64 xr) ∧ w'.cell? ⟨sb, 0 + 1 + 1, none⟩ = some (.int .i64 xa) ∧ w'.cell? ⟨sb, 0 + 1 + 1 + 1, none⟩ = some (.int .i64 xb) ∧ w'.cell? ⟨sb, 0 + 1 + 1 + 1 + 1, none⟩ = some (.int .i64 xi) ∧ w'.cell? ⟨sb, 0 + 1 + 1 + 1 + 1 + 1, none⟩ = some (.int .i64 xn)) (by kernel_rfl) (by kernel_rfl) ⟨s0, s1, s2, s3, s4, s5⟩ ?_
  first | (refine wpRO_pure rfl rfl _ (fun w' hG => by obtain ⟨s0, s1, s2, s3, s4, s5⟩ := hG; exact gives_agg (cs := [_, _, _, _, _, _]) rfl (by decide +kernel) rfl (rangeAt_cons (by assumption) (rangeAt_cons (by assumption) (rangeAt_cons (by assumption) (rangeAt_cons (by assumption) (rangeAt_cons (by assumption) (rangeAt_cons (by assumption) rangeAt_nil))))))) (fun K hK => ?_); go_simp; refine hK _ ?_; clear hK K) | (refine wpRO_pure rfl rfl _ (fun w' hG => by obtain ⟨s0, s1, s2, s3, s4, s5⟩ := hG; exact gives_agg2 rfl (by decide +kernel) rfl (by assumption) (by assumption)) (fun K hK => ?_); go_simp; refine hK _ ?_; clear hK K) | (refine wpRO_pure rfl rfl _ (fun w' hG => by obtain ⟨s0, s1, s2, s3, s4, s5⟩ := hG; go_simp; exact Gives.mk _ _) (fun K hK => ?_); go_simp; refine hK _ ?_; clear hK K) | (refine wpRO_skip rfl rfl (fun K hK => ?_); go_simp; refine hK _ ?_; clear hK K)
  first | (refine wpRO_pure rfl rfl _ (fun w' hG => by obtain ⟨s0, s1, s2, s3, s4, s5⟩ := hG; exact gives_agg (cs := [_, _, _, _, _, _]) rfl (by decide +kernel) rfl (rangeAt_cons (by assumption) (rangeAt_cons (by assumption) (rangeAt_cons (by assumption) (rangeAt_cons (by assumption) (rangeAt_cons (by assumption) (rangeAt_cons (by assumption) rangeAt_nil))))))) (fun K hK => ?_); go_simp; refine hK _ ?_; clear hK K) | (refine wpRO_pure rfl rfl _ (fun w' hG => by obtain ⟨s0, s1, s2, s3, s4, s5⟩ := hG; exact gives_agg2 rfl (by decide +kernel) rfl (by assumption) (by assumption)) (fun K hK => ?_); go_simp; refine hK _ ?_; clear hK K) | (refine wpRO_pure rfl rfl _ (fun w' hG => by obtain ⟨s0, s1, s2, s3, s4, s5⟩ := hG; go_simp; exact Gives.mk _ _) (fun K hK => ?_); go_simp; refine hK _ ?_; clear hK K) | (refine wpRO_skip rfl rfl (fun K hK => ?_); go_simp; refine hK _ ?_; clear hK K)
  refine wpRO_run rfl rfl (fun K hK => ?_); unfold gRun; go_simp
  refine (C1.out _).mono ?_
  rintro e w3 ⟨rfl, hk⟩
  have kk : Keeps (fun _ => False) w2 w3 := (Keeps.refl (fun _ => False) w2).drew.trans hk
  have K3 := Lib.hid (K2.out.trans kk); have SB3 := Lib.hid (kk.blk SB.out (fun h => h))
  refine hK _ _ (fun _ => ⟨SB3.out.cell 0, SB3.out.cell 1, SB3.out.cell 2, SB3.out.cell 3, SB3.out.cell 4, SB3.out.cell 5⟩) ?_
  clear hK K hk kk s0 s1 s2 s3 s4 s5 sl K2 SB C1
  refine wpRO_chg rfl rfl rfl (fun K hK => ?_); unfold gRun; go_simp
  refine (C2.out _).mono ?_
  rintro e w4 ⟨rfl, hk⟩
  have K4 := Lib.hid (K3.out.trans hk); have SB4 := Lib.hid (hk.blk SB3.out (fun h => h))
  refine hK _ _ ?_
  clear hK K hk K3 SB3 C2
  refine wpRO_swi (fun _ => True) trivial ?_
  first | (refine wpRO_free rfl rfl _ (fun w' => by go_simp; exact Gives.mk _ _) (fun K hK => ?_); go_simp; refine hK _ ?_; clear hK K) | (refine wpRO_skipF rfl rfl (fun K hK => ?_); go_simp; refine hK _ ?_; clear hK K)
  first | (refine wpRO_free rfl rfl _ (fun w' => by go_simp; exact Gives.mk _ _) (fun K hK => ?_); go_simp; refine hK _ ?_; clear hK K) | (refine wpRO_skipF rfl rfl (fun K hK => ?_); go_simp; refine hK _ ?_; clear hK K)
  first | (refine wpRO_free rfl rfl _ (fun w' => by go_simp; exact Gives.mk _ _) (fun K hK => ?_); go_simp; refine hK _ ?_; clear hK K) | (refine wpRO_skipF rfl rfl (fun K hK => ?_); go_simp; refine hK _ ?_; clear hK K)
  first | (refine wpRO_free rfl rfl _ (fun w' => by go_simp; exact Gives.mk _ _) (fun K hK => ?_); go_simp; refine hK _ ?_; clear hK K) | (refine wpRO_skipF rfl rfl (fun K hK => ?_); go_simp; refine hK _ ?_; clear hK K)
  refine wpRO_chg rfl rfl rfl (fun K hK => ?_); unfold gRun; go_simp
  refine (U1.out _).mono ?_
  rintro e _ ⟨rfl, rfl⟩
  refine hK _ _ ?_
  clear hK K U1
  refine wpRO_swi (fun _ => True) trivial ?_
  refine wpRO_chg rfl rfl rfl (fun K hK => ?_); unfold gRun; go_simp
  refine (U2.out _).mono ?_
  rintro e w5 ⟨rfl, hk⟩
  have K5 := Lib.hid (K4.out.trans hk); have SB5 := Lib.hid (hk.blk SB4.out (fun h => h))
  refine hK _ _ ?_
  clear hK K hk K4 SB4 U2
  have s0 := SB5.out.cell 0; have sl := SB5.out.lt
  simp only [List.getElem?_cons_zero, List.getElem?_cons_succ] at s0
  refine wpRO_swi (fun w' => w'.cell? ⟨sb, 0, none⟩ = some (.int .i64 xk)) s0 ?_
  first | (refine wpRO_free rfl rfl _ (fun w' => by go_simp; exact Gives.mk _ _) (fun K hK => ?_); go_simp; refine hK _ ?_; clear hK K) | (refine wpRO_skipF rfl rfl (fun K hK => ?_); go_simp; refine hK _ ?_; clear hK K)
  first | (refine wpRO_free rfl rfl _ (fun w' => by go_simp; exact Gives.mk _ _) (fun K hK => ?_); go_simp; refine hK _ ?_; clear hK K) | (refine wpRO_skipF rfl rfl (fun K hK => ?_); go_simp; refine hK _ ?_; clear hK K)
  first | (refine wpRO_free rfl rfl _ (fun w' => by go_simp; exact Gives.mk _ _) (fun K hK => ?_); go_simp; refine hK _ ?_; clear hK K) | (refine wpRO_skipF rfl rfl (fun K hK => ?_); go_simp; refine hK _ ?_; clear hK K)
  first | (refine wpRO_free rfl rfl _ (fun w' => by go_simp; exact Gives.mk _ _) (fun K hK => ?_); go_simp; refine hK _ ?_; clear hK K) | (refine wpRO_skipF rfl rfl (fun K hK => ?_); go_simp; refine hK _ ?_; clear hK K)
  first | (refine wpRO_free rfl rfl _ (fun w' => by go_simp; exact Gives.mk _ _) (fun K hK => ?_); go_simp; refine hK _ ?_; clear hK K) | (refine wpRO_skipF rfl rfl (fun K hK => ?_); go_simp; refine hK _ ?_; clear hK K)
  first | (refine wpRO_pure rfl rfl _ (fun w' hG => by obtain g0 := hG; exact gives_agg2 rfl (by decide +kernel) rfl (by assumption) (by assumption)) (fun K hK => ?_); go_simp; refine hK _ ?_; clear hK K) | (refine wpRO_pure rfl rfl _ (fun w' hG => by obtain g0 := hG; go_simp; exact Gives.mk _ _) (fun K hK => ?_); go_simp; refine hK _ ?_; clear hK K) | (refine wpRO_skip rfl rfl (fun K hK => ?_); go_simp; refine hK _ ?_; clear hK K)
  first | (refine wpRO_pure rfl rfl _ (fun w' hG => by obtain g0 := hG; exact gives_agg2 rfl (by decide +kernel) rfl (by assumption) (by assumption)) (fun K hK => ?_); go_simp; refine hK _ ?_; clear hK K) | (refine wpRO_pure rfl rfl _ (fun w' hG => by obtain g0 := hG; go_simp; exact Gives.mk _ _) (fun K hK => ?_); go_simp; refine hK _ ?_; clear hK K) | (refine wpRO_skip rfl rfl (fun K hK => ?_); go_simp; refine hK _ ?_; clear hK K)
  refine wpRO_run rfl rfl (fun K hK => ?_); unfold gRun; go_simp
  refine (U3.out _).mono ?_
  rintro e _ ⟨rfl, rfl⟩
  refine hK _ _ (fun hg => hg) ?_
  clear hK K U3
  refine wpRO_chg rfl rfl rfl (fun K hK => ?_); unfold gRun; go_simp
  refine (U4.out _).mono ?_
  rintro e w6 ⟨rfl, hk⟩
  have K6 := Lib.hid (K5.out.trans hk)
  refine hK _ _ ?_
  clear hK K hk K5 SB5 U4 s0 sl
  refine wpRO_swi (fun _ => True) trivial ?_
  first | (refine wpRO_free rfl rfl _ (fun w' => by go_simp; exact Gives.mk _ _) (fun K hK => ?_); go_simp; refine hK _ ?_; clear hK K) | (refine wpRO_skipF rfl rfl (fun K hK => ?_); go_simp; refine hK _ ?_; clear hK K)
  first | (refine wpRO_free rfl rfl _ (fun w' => by go_simp; exact Gives.mk _ _) (fun K hK => ?_); go_simp; refine hK _ ?_; clear hK K) | (refine wpRO_skipF rfl rfl (fun K hK => ?_); go_simp; refine hK _ ?_; clear hK K)
  first | (refine wpRO_free rfl rfl _ (fun w' => by go_simp; exact Gives.mk _ _) (fun K hK => ?_); go_simp; refine hK _ ?_; clear hK K) | (refine wpRO_skipF rfl rfl (fun K hK => ?_); go_simp; refine hK _ ?_; clear hK K)
  refine wpRO_fin ?_
  go_wp2_with fail
  go_ret
  exact ⟨rfl, K6.out⟩

theorem HeapChecks_walk (x : St) (k : Int) (w : World) (_ : R64 x.n) (_ : R64 k) :
    Calls Try.prog 3 #[.agg #[.int .i64 x.k, .int .i64 x.r, .int .i64 x.a, .int .i64 x.b, .int .i64 x.i, .int .i64 x.n], .int .i64 k] w fun e w' => e = .returned (.bool true) ∧ Below w.heap.size w w' :=
  (HeapChecks_raw x k w).mono fun e w' ⟨h1, h2⟩ => ⟨h1, h2.below (fun _ _ h => h)⟩
end

end Go.Proofs.Ytjifdalflepcoac
