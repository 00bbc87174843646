import Derived.Test.YtfnhjdehlikbaaaGreatDoorMC
import Derived.Test.YtfnhjdehlikbaaaGreatDoorMB
import Derived.Test.YtfnhjdehlikbaaaGreatDoorM6
import Derived.Test.YtfnhjdehlikbaaaGreatDoorM4
import Derived.Test.YtfnhjdehlikbaaaGreatDoorM7
import Derived.Test.YtfnhjdehlikbaaaGreatDoorM5
import Derived.Maps.AppendAt
import Derived.Lib.SliceRun
import Derived.Deep.Upon
set_option linter.unusedVariables false
set_option linter.unusedSimpArgs false
namespace Go.Proofs.YtfnhjdehlikbaaaGreatDoor.Lx
open Go.RowKit Go.Proofs.YtfnhjdehlikbaaaGreatDoorW.PrintWords
theorem goodT_of {b t : Tok} (h : errT (some b) t = 0) (hs : t.text.size ≤ 65536) : GoodT b t := by
  have hr := errT_ran h
  unfold errT at h
  rw [if_neg (by rw [hr]; decide)] at h
  cases hc : cutB t.kind t.num t.text with
  | false => rw [hc] at h; simp at h
  | true =>
    rw [if_pos hc] at h
    have h : (if ordT b t = true then (15 : Int) else 0) = 0 := h
    cases ho : ordT b t with
    | true => rw [ho] at h; simp at h
    | false =>
      unfold ranT at hr
      unfold ordT at ho
      simp only [Bool.or_eq_false_iff, Bool.and_eq_false_iff, decide_eq_false_iff_not] at hr ho
      refine ⟨cutB_iff t hc, by omega, by omega, by omega, by omega, by omega, by omega, hs, by omega, fun h => ?_, by omega⟩
      rcases ho.2.1 with h1 | h1
      · exact absurd h.symm h1
      · omega
theorem errG_zero {l : List Tok} (hz : ∀ t ∈ l, t.text.size ≤ 65536) : ∀ (n i : Nat), i + n = l.length → (errG l n i).2 = 0 → ∀ k t, i ≤ k → l[k]? = some t → GoodT (prevT l k) t := by
  intro n
  induction n with
  | zero => intro i hi _ k t hk ht; have := (List.getElem?_eq_some_iff.1 ht).1; omega
  | succ n ih =>
    intro i hi h k t hk ht
    have hlt : i < l.length := by omega
    by_cases he : errT (some (prevT l i)) l[i] = 0
    · rw [errG_go hlt he] at h
      by_cases hki : k = i
      · subst hki
        rw [List.getElem?_eq_getElem hlt] at ht
        injection ht with ht
        rw [← ht]
        exact goodT_of he (hz _ (List.getElem_mem hlt))
      · exact ih (i + 1) (by omega) h k t (by omega) ht
    · rw [errG_stop hlt he] at h
      exact absurd h he
theorem goodL_of {l : List Tok} (hz : ∀ t ∈ l, t.text.size ≤ 65536) (h : (errL l).2 = 0) : GoodL l ∧ l.length ≤ 4000 := by
  unfold errL at h
  by_cases hl : 4000 < l.length
  · rw [if_pos hl] at h
    exact absurd h (by decide)
  · rw [if_neg hl] at h
    refine ⟨fun k t ht => ?_, by omega⟩
    have hg := errG_zero hz l.length 0 (by omega) h k t (Nat.zero_le _) ht
    unfold prevT at hg
    exact hg
def layR (l : List Tok) : List Tok × Int × Int := if (errL l).2 = 0 then layF l else ([], (errL l).1, (errL l).2)
set_option maxRecDepth 100000 in
set_option maxHeartbeats 4000000 in
theorem lay_err (l : List Tok) (A : Option Addr) (c : Nat) (w : World) (i e : Int) (he : ¬ e = 0) (h : Calls Tryz.prog 67 #[.slice A l.length c] w fun r w' => r = .returned (.tuple #[.int .i64 i, .int .i64 e]) ∧ Below w.heap.size w w') :
    Calls Tryz.prog 56 #[.slice A l.length c] w (TokRes w.heap.size w ([], i, e)) := by
  have HC := Aside0.mk h
  have he1 : (e == 0) = false := by rw [beq_eq_false_iff_ne]; exact he
  clear h
  go_enter Tryz.func56, Tryz.ntmps56
  go_wp2_with (go_at_call 67; (with_reducible refine HC.out.mono ?_); rintro e w1 ⟨rfl, hb⟩; have HB := Aside0.mk hb; clear hb)
  go_ret3
  exact ⟨_, rfl, Kd.R_nil _ _ _ _ _, HB.out⟩
theorem layR_any (l : List Tok) (A : Option Addr) (c : Nat) (w : World) (ht : Pow w) (hl : l.length ≤ 1000000) (hz : ∀ t ∈ l, t.text.size ≤ 65536) (hT : SrcT A c l w) :
    Calls Tryz.prog 56 #[.slice A l.length c] w (TokRes w.heap.size w (layR l)) := by
  unfold layR
  by_cases h : (errL l).2 = 0
  · rw [if_pos h]
    obtain ⟨hg, hn⟩ := goodL_of hz h
    exact lay_any l A c w ht hn hg hT
  · rw [if_neg h]
    refine lay_err l A c w _ _ h (listError_any l A c w ht hl hz ?_)
    rcases hT with ⟨_, _, h⟩ | h
    · exact .inl h
    · exact .inr h
set_option maxRecDepth 1000000 in
set_option maxHeartbeats 4000000 in
theorem refLay_err (n : Nat) (A : Option Addr) (c : Nat) (w : World) (i e : Int) (he : ¬ e = 0) (h : Calls Tryz.prog 108 #[.slice A n c] w fun r w' => r = .returned (.tuple #[.int .i64 i, .int .i64 e]) ∧ Below w.heap.size w w') :
    Calls Tryz.prog 74 #[.slice A n c] w (RefRes w ([], i, e)) := by
  have HC := Aside0.mk h
  have he1 : (e == 0) = false := by rw [beq_eq_false_iff_ne]; exact he
  clear h
  go_enter Tryz.func74, Tryz.ntmps74
  go_wp2_with (go_at_call 108; (with_reducible refine HC.out.mono ?_); rintro e w1 ⟨rfl, hb⟩; have HB := Aside0.mk hb; clear hb)
  go_ret3
  exact ⟨none, 0, rfl, srcC_nil _ _, HB.out⟩
theorem refLayR_any (l : List Tok) (A : Option Addr) (c : Nat) (w : World) (hl : l.length ≤ 1000000) (hz : ∀ t ∈ l, t.text.size ≤ 65536) (hc : l.length ≤ c) (hT : SrcC A l w) :
    Calls Tryz.prog 74 #[.slice A l.length c] w (RefRes w (layR l)) := by
  unfold layR
  by_cases h : (errL l).2 = 0
  · rw [if_pos h]
    obtain ⟨hg, hn⟩ := goodL_of hz h
    exact refLay_any l A c w hn hg hc hT
  · rw [if_neg h]
    exact refLay_err _ A c w _ _ h (refRight_all l A c w hl hz hT)
end Go.Proofs.YtfnhjdehlikbaaaGreatDoor.Lx
namespace Go.Proofs.YtfnhjdehlikbaaaGreatDoor.Lx
open Go.RowKit Go.Proofs.YtfnhjdehlikbaaaGreatDoorW.PrintWords
def wLt : ByteArray := ⟨#[60]⟩
def wWith : ByteArray := ⟨#[119, 105, 116, 104]⟩
def img (v : Lev) : ByteArray := if v.block = true then wLt else v.text
def closers3 : List ByteArray := [⟨#[41]⟩, ⟨#[125]⟩, ⟨#[105, 110]⟩]
def heads3 : List ByteArray := [⟨#[109, 97, 116, 99, 104]⟩, ⟨#[104, 97, 110, 100, 108, 101]⟩, ⟨#[97, 98, 105, 108, 105, 116, 121]⟩]
def opOf (x : ByteArray) : ByteArray := if x = ⟨#[41]⟩ then ⟨#[40]⟩ else if x = ⟨#[125]⟩ then ⟨#[123]⟩ else ⟨#[108, 101, 116]⟩
def NoW (p : Option Tok) : Prop := ∃ q, p = some q ∧ q.text ≠ wWith
inductive Stp (p : Option Tok) (t : Tok) : List ByteArray → List ByteArray → Prop where
  | opn (st : List ByteArray) : t.kind = 5 → (∀ q, p = some q → q.text = wWith) → t.text = ⟨#[]⟩ → Stp p t st (st ++ [wLt])
  | cls (st : List ByteArray) : t.kind = 7 → NoW p → t.text = ⟨#[]⟩ → Stp p t (st ++ [wLt]) st
  | nxt (st : List ByteArray) (q : Tok) : t.kind = 6 → p = some q → q.kind ≠ 5 → q.kind ≠ 6 → q.text ≠ wWith → t.text = ⟨#[]⟩ → Stp p t (st ++ [wLt]) (st ++ [wLt])
  | shut (st : List ByteArray) : 1 ≤ t.kind → t.kind ≤ 4 → NoW p → t.text ∈ closers3 → Stp p t (st ++ [opOf t.text]) st
  | wit (st : List ByteArray) (o : ByteArray) : 1 ≤ t.kind → t.kind ≤ 4 → NoW p → t.text = wWith → o ∈ heads3 → Stp p t (st ++ [o]) st
  | push (st : List ByteArray) : 1 ≤ t.kind → t.kind ≤ 4 → NoW p → t.text ∈ openers → Stp p t st (st ++ [t.text])
  | raw (st : List ByteArray) : 1 ≤ t.kind → t.kind ≤ 4 → NoW p → t.text ∉ closers → t.text ∉ openers → Stp p t st st
inductive Chk : Option Tok → List ByteArray → List Tok → List ByteArray → Prop where
  | nil (p : Option Tok) (st : List ByteArray) : Chk p st [] st
  | cons {p : Option Tok} {t : Tok} {st st1 st2 : List ByteArray} {l : List Tok} : Stp p t st st1 → Chk (some t) st1 l st2 → Chk p st (t :: l) st2
def lst (p : Option Tok) (l : List Tok) : Option Tok := match l.getLast? with | some q => some q | none => p
theorem lst_cons (p : Option Tok) (t : Tok) (l : List Tok) : lst p (t :: l) = lst (some t) l := by
  unfold lst
  cases l with
  | nil => rfl
  | cons a l => rw [List.getLast?_cons_cons]; cases h : (a :: l).getLast? with
    | none => simp at h
    | some q => rfl
theorem lst_some {p : Option Tok} {l : List Tok} {q : Tok} (h : l.getLast? = some q) : lst p l = some q := by unfold lst; rw [h]
theorem Chk.snoc {t : Tok} {st1 st2 : List ByteArray} : ∀ {l : List Tok} {p : Option Tok} {st : List ByteArray}, Chk p st l st1 → Stp (lst p l) t st1 st2 → Chk p st (l ++ [t]) st2 := by
  intro l
  induction l with
  | nil => intro p st h hs; cases h; exact .cons hs (.nil _ _)
  | cons a l ih =>
    intro p st h hs
    cases h with
    | cons h1 h2 => exact .cons h1 (ih h2 (by rwa [lst_cons] at hs))
structure Bi (st : List Lev) (out src : List Tok) : Prop where
  chk : Chk none [] out (st.map img)
  last : ∃ q, out.getLast? = some q ∧ q.text ≠ wWith
  raw : out.filter (fun t => decide (t.kind < 5)) = src
  head : ∃ q, out.head? = some q ∧ q.kind = 5
def Calm (out : List Tok) : Prop := ∃ q, out.getLast? = some q ∧ q.text ≠ wWith ∧ q.kind ≠ 5 ∧ q.kind ≠ 6
theorem empty_with : (⟨#[]⟩ : ByteArray) ≠ wWith := by decide
theorem Bi.noW {st : List Lev} {out src : List Tok} (h : Bi st out src) : NoW (lst none out) := by
  obtain ⟨q, h1, h2⟩ := h.last
  exact ⟨q, lst_some h1, h2⟩
theorem head_snoc {α : Type} {l : List α} {q x : α} (h : l.head? = some q) : (l ++ [x]).head? = some q := by
  cases l with
  | nil => cases h
  | cons a l => exact h
theorem Bi.mark {st st' : List Lev} {out src : List Tok} {t : Tok} (h : Bi st out src) (ht : 5 ≤ t.kind) (hx : t.text = ⟨#[]⟩) (hs : Stp (lst none out) t (st.map img) (st'.map img)) : Bi st' (out ++ [t]) src :=
  ⟨h.chk.snoc hs, ⟨t, by simp, by rw [hx]; exact empty_with⟩, by rw [List.filter_append, h.raw]; simp; omega, by obtain ⟨q, h1, h2⟩ := h.head; exact ⟨q, head_snoc h1, h2⟩⟩
theorem Bi.rawT {st st' : List Lev} {out src : List Tok} {t : Tok} (h : Bi st out src) (ht : t.kind ≤ 4) (hx : t.text ≠ wWith) (hs : Stp (lst none out) t (st.map img) (st'.map img)) : Bi st' (out ++ [t]) (src ++ [t]) :=
  ⟨h.chk.snoc hs, ⟨t, by simp, hx⟩, by rw [List.filter_append, h.raw]; congr 1; simp; omega, by obtain ⟨q, h1, h2⟩ := h.head; exact ⟨q, head_snoc h1, h2⟩⟩
theorem Bi.shut {p : Lev → Bool} {t : Tok} : ∀ (n : Nat) (st : List Lev) (out src : List Tok), st.length = n → Bi st out src → Bi (shutF p t st out).1 (shutF p t st out).2 src ∧ (Calm out → Calm (shutF p t st out).2) := by
  intro n
  induction n with
  | zero => intro st out src h hb; rw [List.eq_nil_of_length_eq_zero h] at hb ⊢; exact ⟨hb, id⟩
  | succ n ih =>
    intro st out src h hb
    rcases List.eq_nil_or_concat st with rfl | ⟨s, v, rfl⟩
    · simp at h
    · rw [List.concat_eq_append] at *
      cases hp : (v.block && p v) with
      | true =>
        rw [shutF_go hp]
        have hv : v.block = true := by cases hh : v.block with
          | true => rfl
          | false => rw [hh] at hp; cases hp
        have hb2 : Bi s (out ++ [markF 7 t]) src := hb.mark (by simp [markF]) rfl (by
          rw [List.map_append]
          have hi : [v].map img = [wLt] := by simp [img, hv]
          rw [hi]
          exact .cls _ rfl hb.noW rfl)
        obtain ⟨h1, h2⟩ := ih s _ src (by simpa using h) hb2
        exact ⟨h1, fun _ => h2 ⟨markF 7 t, by simp, empty_with, by simp [markF], by simp [markF]⟩⟩
      | false => rw [shutF_stop hp]; exact ⟨hb, id⟩
theorem Bi.oneA {t : Tok} {begins : Bool} {st : List Lev} {out src : List Tok} (h : Bi st out src) (hc : begins = true → Calm out) (hok : badA t begins st out = false) : Bi (oneA t begins st out).1 (oneA t begins st out).2 src := by
  cases begins with
  | false => exact h
  | true =>
    unfold Lx.oneA
    rw [if_pos rfl]
    obtain ⟨h1, h2⟩ := h.shut (p := deeper t) (t := t) _ st out src rfl
    have h2 := h2 (hc rfl)
    generalize shutF (deeper t) t st out = R at h1 h2
    obtain ⟨s, o⟩ := R
    simp only at h1 h2 ⊢
    split
    · rename_i hb
      rcases List.eq_nil_or_concat s with rfl | ⟨s, v, rfl⟩
      · cases hb
      · rw [List.concat_eq_append, topF_snoc] at *
        have hv : v.block = true := by cases hh : v.block with
          | true => rfl
          | false => rw [hh] at hb; cases hb
        refine h1.mark (by simp [markF]) rfl ?_
        rw [List.map_append]
        have hi : [v].map img = [wLt] := by simp [img, hv]
        rw [hi]
        obtain ⟨q, hq, q1, q2, q3⟩ := h2
        exact .nxt _ q rfl (lst_some hq) q2 q3 q1 rfl
    · exact h1
theorem closers_split {x : ByteArray} (h : x ∈ closers) : x ∈ closers3 ∨ x = wWith := by
  simp only [closers, closers3, List.mem_cons, List.not_mem_nil, or_false] at *
  rcases h with h | h | h | h
  · exact .inl (.inl h)
  · exact .inl (.inr (.inl h))
  · exact .inl (.inr (.inr h))
  · exact .inr h
theorem sq_eq {a : ByteArray} {l : List UInt8} : sq a l = true ↔ a = ⟨l.toArray⟩ := by
  unfold sq
  rw [beq_iff_eq, ByteArray.toList_eq]
  constructor
  · intro h; exact ByteArray.ext (by rw [← h])
  · intro h; rw [h]
theorem closesF_1 (o : ByteArray) : closesF ⟨#[41]⟩ o = sq o [40] := by unfold closesF; rw [if_pos (by decide +kernel)]
theorem closesF_2 (o : ByteArray) : closesF ⟨#[125]⟩ o = sq o [123] := by unfold closesF; rw [if_neg (by decide +kernel), if_pos (by decide +kernel)]
theorem closesF_3 (o : ByteArray) : closesF ⟨#[105, 110]⟩ o = sq o [108, 101, 116] := by unfold closesF; rw [if_neg (by decide +kernel), if_neg (by decide +kernel), if_pos (by decide +kernel)]
theorem closesF_4 (o : ByteArray) : closesF wWith o = (sq o [109, 97, 116, 99, 104] || (sq o [104, 97, 110, 100, 108, 101] || sq o [97, 98, 105, 108, 105, 116, 121])) := by unfold closesF; rw [if_neg (by decide +kernel), if_neg (by decide +kernel), if_neg (by decide +kernel), if_pos (by decide +kernel)]
theorem closes_op {x o : ByteArray} (hx : x ∈ closers3) (h : closesF x o = true) : o = opOf x := by
  simp only [closers3, List.mem_cons, List.not_mem_nil, or_false] at hx
  rcases hx with rfl | rfl | rfl
  · rw [closesF_1] at h; exact sq_eq.1 h
  · rw [closesF_2] at h; exact sq_eq.1 h
  · rw [closesF_3] at h; exact sq_eq.1 h
theorem closes_with {o : ByteArray} (h : closesF wWith o = true) : o ∈ heads3 := by
  rw [closesF_4, Bool.or_eq_true, Bool.or_eq_true, sq_eq, sq_eq, sq_eq] at h
  simp only [heads3, List.mem_cons, List.not_mem_nil, or_false]
  exact h
theorem closer_no_opener' : ∀ x ∈ closers, among openers x = false := by decide +kernel
theorem closer_no_opener (x : ByteArray) (h : x ∈ closers) : x ∉ openers := fun hh => by
  have := closer_no_opener' x h
  rw [among_mem.2 hh] at this
  cases this
theorem closer3_no_with : ∀ x ∈ closers3, x ≠ wWith := by decide +kernel
theorem Bi.one {t nx : Tok} {begins more : Bool} {st : List Lev} {out src : List Tok} (h : Bi st out src) (hc : begins = true → Calm out) (hw : WfT t)
    (hok : (oneF t nx begins more st out).2.2 = 0) : Bi (oneF t nx begins more st out).1.1 (oneF t nx begins more st out).1.2 (src ++ [t]) ∧ ((oneF t nx begins more st out).2.1 = false → Calm (oneF t nx begins more st out).1.2) := by
  have hk := hw.kind
  cases hA : badA t begins st out with
  | true => rw [oneF_badA hA] at hok; simp at hok
  | false =>
    rw [oneF_okA hA] at hok ⊢
    have hb := h.oneA hc hA
    generalize Lx.oneA t begins st out = a at hok hb
    obtain ⟨st, out⟩ := a
    simp only at hok hb ⊢
    unfold oneF2 at hok ⊢
    cases hB : badB t st out with
    | true => rw [hB, if_pos rfl] at hok; simp at hok
    | false =>
      rw [hB] at hok
      rw [if_neg (by simp)] at hok ⊢
      rw [oneF3_fin] at hok ⊢
      have hfin : oneFin (oneC t nx more (oneB t st out).1 (oneB t st out).2) = ((oneC t nx more (oneB t st out).1 (oneB t st out).2).1, (oneC t nx more (oneB t st out).1 (oneB t st out).2).2, 0) := by
        unfold oneFin at hok ⊢
        split at hok
        · simp at hok
        · rename_i h1; rw [if_neg h1]
      rw [hfin]
      simp only
      clear hok hfin
      unfold badB at hB
      unfold Lx.oneB
      rw [closing_wf hw] at hB ⊢
      cases hcl : among closers t.text with
      | true =>
        rw [hcl, Bool.true_and] at hB
        rw [if_pos rfl]
        obtain ⟨h1, -⟩ := hb.shut (p := anyL) (t := t) _ st out src rfl
        have htop := shutF_any t _ st out rfl
        generalize shutF anyL t st out = R at hB h1 htop
        obtain ⟨s, o⟩ := R
        simp only at hB h1 htop ⊢
        rw [Bool.or_eq_false_iff] at hB
        obtain ⟨hB1, hB2⟩ := hB
        rcases List.eq_nil_or_concat s with rfl | ⟨s, v, rfl⟩
        · cases hB1
        · rw [List.concat_eq_append] at *
          have hv : v.block = false := by have := htop (by simp); rwa [topF_snoc] at this
          rw [topF_snoc] at hB2
          have hcv : closesF t.text v.text = true := by simpa using hB2
          rw [List.dropLast_concat]
          have hmem := among_mem.1 hcl
          have hno := closer_no_opener _ hmem
          have hop : opening t = false := by
            rw [opening_wf hw]
            cases hh : among openers t.text with
            | false => rfl
            | true => exact absurd (among_mem.1 hh) hno
          have hi : (s ++ [v]).map img = s.map img ++ [v.text] := by rw [List.map_append]; simp [img, hv]
          rcases closers_split hmem with h3 | h3
          · have hwi : withs t = false := by
              rw [withs_wf hw]
              cases hh : sq t.text [119, 105, 116, 104] with
              | false => rfl
              | true => exact absurd (sq_eq.1 hh) (closer3_no_with _ h3)
            rw [oneC_none hop hwi]
            simp only
            have hb2 : Bi s (o ++ [t]) (src ++ [t]) := h1.rawT hk.2 (closer3_no_with _ h3) (by
              rw [hi, closes_op h3 hcv]
              exact .shut _ hk.1 hk.2 h1.noW h3)
            exact ⟨hb2, fun _ => ⟨t, by simp, closer3_no_with _ h3, by omega, by omega⟩⟩
          · have hwi : withs t = true := by
              rw [withs_wf hw]
              exact sq_eq.2 h3
            have hs1 : Stp (lst none o) t ((s ++ [v]).map img) (s.map img) := by
              rw [hi]
              exact .wit _ _ hk.1 hk.2 h1.noW h3 (closes_with (by rw [← h3]; exact hcv))
            have hch := h1.chk.snoc hs1
            have hl : lst none (o ++ [t]) = some t := lst_some (by simp)
            have ho : Stp (lst none (o ++ [t])) (markF 5 nx) (s.map img) (s.map img ++ [wLt]) := .opn _ rfl (fun q hq => by rw [hl] at hq; injection hq with hq; rw [← hq]; exact h3) rfl
            have hch2 := hch.snoc ho
            have hraw : (o ++ [t] ++ [markF 5 nx]).filter (fun t => decide (t.kind < 5)) = src ++ [t] := by
              rw [List.filter_append, List.filter_append, h1.raw]
              have : decide (t.kind < 5) = true := by simp; omega
              simp [this, markF]
            have hhd : ∃ q, (o ++ [t] ++ [markF 5 nx]).head? = some q ∧ q.kind = 5 := by
              obtain ⟨q, e1, e2⟩ := h1.head
              exact ⟨q, head_snoc (head_snoc e1), e2⟩
            have hb3 : Bi (s ++ [⟨true, nx.col, ⟨#[]⟩⟩]) (o ++ [t] ++ [markF 5 nx]) (src ++ [t]) := ⟨by rw [List.map_append]; exact hch2, ⟨markF 5 nx, by simp, empty_with⟩, hraw, hhd⟩
            cases hop2 : opens nx more s with
            | true =>
              rw [oneC_with hop hwi hop2]
              exact ⟨hb3, fun hh => by cases hh⟩
            | false =>
              rw [oneC_shut hop hwi hop2]
              simp only
              refine ⟨hb3.mark (by simp [markF]) rfl ?_, fun _ => ⟨markF 7 nx, by simp, empty_with, by simp [markF], by simp [markF]⟩⟩
              rw [List.map_append]
              exact .cls _ rfl hb3.noW rfl
      | false =>
        rw [if_neg (by simp)]
        simp only
        have hncl : t.text ∉ closers := fun hh => by rw [among_mem.2 hh] at hcl; cases hcl
        have hnw : t.text ≠ wWith := fun hh => hncl (by rw [hh]; simp [closers, wWith])
        cases hop : among openers t.text with
        | true =>
          rw [oneC_open (by rw [opening_wf hw]; exact hop)]
          simp only
          have hm := among_mem.1 hop
          refine ⟨hb.rawT hk.2 hnw ?_, fun _ => ⟨t, by simp, hnw, by omega, by omega⟩⟩
          rw [List.map_append]
          exact .push _ hk.1 hk.2 hb.noW hm
        | false =>
          have hwi : withs t = false := by
            rw [withs_wf hw]
            cases hh : sq t.text [119, 105, 116, 104] with
            | false => rfl
            | true => exact absurd (sq_eq.1 hh) hnw
          rw [oneC_none (by rw [opening_wf hw]; exact hop) hwi]
          simp only
          refine ⟨hb.rawT hk.2 hnw (.raw _ hk.1 hk.2 hb.noW hncl fun hh => ?_), fun _ => ⟨t, by simp, hnw, by omega, by omega⟩⟩
          rw [among_mem.2 hh] at hop
          cases hop
theorem Base.one {t nx : Tok} {begins more : Bool} {st : List Lev} {out : List Tok} (h : Base st) (hok : (oneF t nx begins more st out).2.2 = 0) : Base (oneF t nx begins more st out).1.1 := by
  cases hA : badA t begins st out with
  | true => rw [oneF_badA hA] at hok; simp at hok
  | false =>
    rw [oneF_okA hA] at hok ⊢
    have hb := h.oneA hA
    generalize Lx.oneA t begins st out = a at hok hb
    obtain ⟨st, out⟩ := a
    simp only at hok hb ⊢
    unfold oneF2 at hok ⊢
    cases hB : badB t st out with
    | true => rw [hB, if_pos rfl] at hok; simp at hok
    | false =>
      rw [hB] at hok
      rw [if_neg (by simp)] at hok ⊢
      rw [oneF3_fin] at hok ⊢
      have h2 := (hb.oneB hB).oneC t nx more (Lx.oneB t st out).2
      unfold oneFin at hok ⊢
      split at hok
      · simp at hok
      · rename_i h1; rw [if_neg h1]; exact h2
structure Blocks (m l : List Tok) : Prop where
  chk : Chk none [] m []
  raw : m.filter (fun t => decide (t.kind < 5)) = l
  head : ∃ q, m.head? = some q ∧ q.kind = 5
  last : ∃ q, m.getLast? = some q ∧ q.kind = 7
theorem goodL_wf {l : List Tok} (h : GoodL l) (t : Tok) (ht : t ∈ l) : WfT t := by
  obtain ⟨i, hi, rfl⟩ := List.getElem_of_mem ht
  exact (h i _ (List.getElem?_eq_getElem hi)).wf
end Go.Proofs.YtfnhjdehlikbaaaGreatDoor.Lx
namespace Go.Proofs.YtfnhjdehlikbaaaGreatDoor.Lx
open Go.RowKit Go.Proofs.YtfnhjdehlikbaaaGreatDoorW.PrintWords
theorem own_empty54 (W : World) (B : Nat) (hB : B ≤ W.heap.size) : (W.alloc (.cells #[] 54)).ownsRow B 54 6 (.slice (some ⟨W.heap.size, 0, none⟩) 0 0) 0 [] :=
  ⟨by simp, .inr ⟨W.heap.size, 0, #[], rfl, hB, heap_new W _, Nat.le_refl _, by unfold maxLen; omega, by simp, by simp⟩⟩
end Go.Proofs.YtfnhjdehlikbaaaGreatDoor.Lx
namespace Go.Proofs.YtfnhjdehlikbaaaGreatDoor.Lx
open Go.RowKit Go.Proofs.YtfnhjdehlikbaaaGreatDoorW.PrintWords
def setT (c : Array Value) (o : Nat) (t : Tok) : Array Value := (((((c.setIfInBounds (o + 0) (.int .i64 t.kind)).setIfInBounds (o + 1) (.int .i64 t.num)).setIfInBounds (o + 2) (.string t.text)).setIfInBounds (o + 3) (.int .i64 t.at_)).setIfInBounds (o + 4) (.int .i64 t.line)).setIfInBounds (o + 5) (.int .i64 t.col)
theorem setT_size (c : Array Value) (o : Nat) (t : Tok) : (setT c o t).size = c.size := by simp [setT]
theorem setT_out {c : Array Value} {o : Nat} {t : Tok} {j : Nat} (h : j < o ∨ o + 6 ≤ j) : (setT c o t)[j]? = c[j]? := by
  unfold setT
  rw [Array.getElem?_setIfInBounds_ne (by omega), Array.getElem?_setIfInBounds_ne (by omega), Array.getElem?_setIfInBounds_ne (by omega), Array.getElem?_setIfInBounds_ne (by omega), Array.getElem?_setIfInBounds_ne (by omega), Array.getElem?_setIfInBounds_ne (by omega)]
theorem setT_in {c : Array Value} {o : Nat} {t : Tok} (h : o + 6 ≤ c.size) : ∀ k v, t.cells.toList[k]? = some v → (setT c o t)[o + k]? = some v := by
  intro k v hv
  unfold setT
  rcases k with _ | _ | _ | _ | _ | _ | k
  · rw [Array.getElem?_setIfInBounds_ne (by omega), Array.getElem?_setIfInBounds_ne (by omega), Array.getElem?_setIfInBounds_ne (by omega), Array.getElem?_setIfInBounds_ne (by omega), Array.getElem?_setIfInBounds_ne (by omega), Array.getElem?_setIfInBounds_self_of_lt (by simp; omega)]; exact hv
  · rw [Array.getElem?_setIfInBounds_ne (by omega), Array.getElem?_setIfInBounds_ne (by omega), Array.getElem?_setIfInBounds_ne (by omega), Array.getElem?_setIfInBounds_ne (by omega), Array.getElem?_setIfInBounds_self_of_lt (by simp; omega)]; exact hv
  · rw [Array.getElem?_setIfInBounds_ne (by omega), Array.getElem?_setIfInBounds_ne (by omega), Array.getElem?_setIfInBounds_ne (by omega), Array.getElem?_setIfInBounds_self_of_lt (by simp; omega)]; exact hv
  · rw [Array.getElem?_setIfInBounds_ne (by omega), Array.getElem?_setIfInBounds_ne (by omega), Array.getElem?_setIfInBounds_self_of_lt (by simp; omega)]; exact hv
  · rw [Array.getElem?_setIfInBounds_ne (by omega), Array.getElem?_setIfInBounds_self_of_lt (by simp; omega)]; exact hv
  · rw [Array.getElem?_setIfInBounds_self_of_lt (by simp; omega)]; exact hv
  · simp [Tok.cells] at hv
def InRow (cur : Array Value) (r : Nat) (t : Tok) : Prop := ∀ k v, t.cells.toList[k]? = some v → cur[r * 6 + k]? = some v
theorem tok_lt {t : Tok} {k : Nat} {v : Value} (h : t.cells.toList[k]? = some v) : k < 6 := by
  have := (List.getElem?_eq_some_iff.1 h).1
  simpa [Tok.cells] using this
structure DelAt (g cap : Nat) (L : List Tok) (j : Nat) (fl : List Tok) (w W : World) : Prop where
  blk : ∃ cur, W.heap[g]? = some (.cells cur 54) ∧ cur.size = cap * 6 ∧ (∀ (r : Nat) t, fl[r]? = some t → InRow cur r t) ∧ (∀ (r : Nat) t, j ≤ r → L[r]? = some t → InRow cur r t)
  keep : Keep (· = g) w W
  eq : fl = (L.take j).filter (fun t => decide (t.kind < 5))
  lt : fl.length < j
section
variable {g cap j : Nat} {L fl : List Tok} {w W W' : World} {t : Tok}
theorem DelAt.step (h : DelAt g cap L j fl w W) (hb : Below W.heap.size W W') : DelAt g cap L j fl w W' := by
  obtain ⟨cur, h1, h2⟩ := h.blk
  exact ⟨⟨cur, (hb.block _ (heap_lt h1)).trans h1, h2⟩, h.keep.trans (Keep.of_below hb), h.eq, h.lt⟩
theorem DelAt.tok (h : DelAt g cap L j fl w W) (ht : L[j]? = some t) : W.cell? ⟨g, j * 6, none⟩ = some (.int .i64 t.kind) ∧ W.cell? ⟨g, j * 6 + 1, none⟩ = some (.int .i64 t.num) ∧ W.cell? ⟨g, j * 6 + 2, none⟩ = some (.string t.text) ∧ W.cell? ⟨g, j * 6 + 3, none⟩ = some (.int .i64 t.at_) ∧ W.cell? ⟨g, j * 6 + 4, none⟩ = some (.int .i64 t.line) ∧ W.cell? ⟨g, j * 6 + 5, none⟩ = some (.int .i64 t.col) := by
  obtain ⟨cur, h1, _, _, h4⟩ := h.blk
  have h5 := h4 j t (Nat.le_refl _) ht
  exact ⟨(cell_of h1 _).trans (h5 0 _ rfl), (cell_of h1 _).trans (h5 1 _ rfl), (cell_of h1 _).trans (h5 2 _ rfl), (cell_of h1 _).trans (h5 3 _ rfl), (cell_of h1 _).trans (h5 4 _ rfl), (cell_of h1 _).trans (h5 5 _ rfl)⟩
theorem take_filter (p : Tok → Bool) (ht : L[j]? = some t) : (L.take (j + 1)).filter p = (L.take j).filter p ++ (if p t = true then [t] else []) := by
  obtain ⟨hlt, rfl⟩ := List.getElem?_eq_some_iff.1 ht
  rw [List.take_succ_eq_append_getElem hlt, List.filter_append]
  cases hp : p L[j] <;> simp [hp]
theorem DelAt.skip (h : DelAt g cap L j fl w W) (ht : L[j]? = some t) (hk : decide (t.kind ≥ 5) = true) : DelAt g cap L (j + 1) fl w W := by
  obtain ⟨cur, h1, h2, h3, h4⟩ := h.blk
  refine ⟨⟨cur, h1, h2, h3, fun r u hr => h4 r u (by omega)⟩, h.keep, ?_, Nat.lt_succ_of_lt h.lt⟩
  rw [take_filter _ ht, h.eq, if_neg (by simp at hk ⊢; omega), List.append_nil]
theorem DelAt.put (h : DelAt g cap L j fl w W) (ht : L[j]? = some t) (hk : decide (t.kind ≥ 5) = false) (hj : j < cap) :
    DelAt g cap L (j + 1) (fl ++ [t]) w ((((((W.setCell ⟨g, fl.length * 6, none⟩ (.int .i64 t.kind)).setCell ⟨g, fl.length * 6 + 1, none⟩ (.int .i64 t.num)).setCell ⟨g, fl.length * 6 + 2, none⟩ (.string t.text)).setCell ⟨g, fl.length * 6 + 3, none⟩ (.int .i64 t.at_)).setCell ⟨g, fl.length * 6 + 4, none⟩ (.int .i64 t.line)).setCell ⟨g, fl.length * 6 + 5, none⟩ (.int .i64 t.col)) := by
  obtain ⟨cur, h1, h2, h3, h4⟩ := h.blk
  have hlt := h.lt
  have hsz : fl.length * 6 + 6 ≤ cur.size := by rw [h2]; omega
  refine ⟨⟨setT cur (fl.length * 6) t, heap_set (heap_set (heap_set (heap_set (heap_set (heap_set h1 _ _) _ _) _ _) _ _) _ _) _ _, by rw [setT_size, h2], fun r u hr => ?_, fun r u hr hu => ?_⟩, ?_, ?_, ?_⟩
  · intro k v hv
    have hk6 := tok_lt hv
    rcases Nat.lt_or_ge r fl.length with hl | hl
    · rw [List.getElem?_append_left hl] at hr
      rw [setT_out (by omega)]
      exact h3 r u hr k v hv
    · rw [List.getElem?_append_right hl] at hr
      obtain ⟨hlt2, hx⟩ := List.getElem?_eq_some_iff.1 hr
      simp at hlt2
      obtain rfl : r = fl.length := by omega
      simp at hx
      subst hx
      exact setT_in hsz k v hv
  · intro k v hv
    have hk6 := tok_lt hv
    rw [setT_out (by omega)]
    exact h4 r u (by omega) hu k v hv
  · exact (((((h.keep.setCell (.inl rfl) _).setCell (.inl rfl) _).setCell (.inl rfl) _).setCell (.inl rfl) _).setCell (.inl rfl) _).setCell (.inl rfl) _
  · rw [take_filter _ ht, h.eq, if_pos (by simp at hk ⊢; omega)]
  · rw [List.length_append]; simp; omega
end
end Go.Proofs.YtfnhjdehlikbaaaGreatDoor.Lx
namespace Go.Proofs.YtfnhjdehlikbaaaGreatDoor.Lx
open Go.RowKit Go.Proofs.YtfnhjdehlikbaaaGreatDoorW.PrintWords Go.BigFrame
def SameP (m l : List Tok) : Prop := m.length = l.length ∧ ∀ (k : Nat) a b, m[k]? = some a → l[k]? = some b → a.kind = b.kind ∧ a.text = b.text
open Classical in
noncomputable def tellF (s : ByteArray) (l : List Tok) : ByteArray × Int :=
  if 65536 < s.size then (⟨#[]⟩, 11) else if (rawF s).2.2 = 0 ∧ SameP (rawF s).1 l then (s, 0) else (⟨#[]⟩, 7)
theorem tellF_long {s : ByteArray} {l : List Tok} (h : 65536 < s.size) : tellF s l = (⟨#[]⟩, 11) := if_pos h
theorem tellF_good {s : ByteArray} {l : List Tok} (h : ¬ 65536 < s.size) (h2 : (rawF s).2.2 = 0 ∧ SameP (rawF s).1 l) : tellF s l = (s, 0) := by unfold tellF; rw [if_neg h, if_pos h2]
theorem tellF_bad {s : ByteArray} {l : List Tok} (h : ¬ 65536 < s.size) (h2 : ¬ ((rawF s).2.2 = 0 ∧ SameP (rawF s).1 l)) : tellF s l = (⟨#[]⟩, 7) := by unfold tellF; rw [if_neg h, if_neg h2]
theorem num_of {a b : Tok} (ha : WfT a) (hb : WfT b) (hk : a.kind = b.kind) (hx : a.text = b.text) : a.num = b.num := by
  rcases ha with ⟨h1, h2, _⟩ | ⟨h1, _, _, _, h2, _⟩ | ⟨h1, h2, _⟩ | ⟨h1, h2, _⟩ <;> rcases hb with ⟨g1, g2, _⟩ | ⟨g1, _, _, _, g2, _⟩ | ⟨g1, g2, _⟩ | ⟨g1, g2, _⟩ <;> first | omega | (rw [← h2, ← g2, hx])
structure TwoAt (w : World) (a b : Tok) (W : World) : Prop where
  one : W.heap[w.heap.size]? = some (.cells a.cells 54)
  two : W.heap[w.heap.size + 1]? = some (.cells b.cells 54)
  below : Below w.heap.size w W
theorem TwoAt.step {w : World} {a b : Tok} {W W' : World} (h : TwoAt w a b W) (hb : Below W.heap.size W W') : TwoAt w a b W' :=
  ⟨(hb.block _ (heap_lt h.one)).trans h.one, (hb.block _ (heap_lt h.two)).trans h.two, h.below.trans (hb.mono h.below.size)⟩
set_option maxRecDepth 100000 in
set_option maxHeartbeats 8000000 in
theorem same_k (tk tn : Int) (tx : ByteArray) (ta tl tc : Int) (bk bn : Int) (bx : ByteArray) (ba bl bc : Int) (w : World) (h : ¬ tk = bk) :
    Calls Tryz.prog 143 #[.agg #[.int .i64 tk, .int .i64 tn, .string tx, .int .i64 ta, .int .i64 tl, .int .i64 tc], .agg #[.int .i64 bk, .int .i64 bn, .string bx, .int .i64 ba, .int .i64 bl, .int .i64 bc]] w fun e w' => e = .returned (.bool false) ∧ Below w.heap.size w w' := by
  have HA : Aside0 (∀ W, Calls Tryz.prog 144 #[.agg #[.int .i64 tk, .int .i64 tn, .string tx, .int .i64 ta, .int .i64 tl, .int .i64 tc]] W fun e w' => e = .returned (.agg #[.int .i64 tk, .int .i64 tn, .string tx]) ∧ Below W.heap.size W w') := ⟨fun W => bare_any ⟨tk, tn, tx, ta, tl, tc⟩ W⟩
  have HB : Aside0 (∀ W, Calls Tryz.prog 144 #[.agg #[.int .i64 bk, .int .i64 bn, .string bx, .int .i64 ba, .int .i64 bl, .int .i64 bc]] W fun e w' => e = .returned (.agg #[.int .i64 bk, .int .i64 bn, .string bx]) ∧ Below W.heap.size W w') := ⟨fun W => bare_any ⟨bk, bn, bx, ba, bl, bc⟩ W⟩
  have hF : Aside0 (TwoAt w ⟨tk, tn, tx, ta, tl, tc⟩ ⟨bk, bn, bx, ba, bl, bc⟩ ((w.alloc (.cells #[.int .i64 tk, .int .i64 tn, .string tx, .int .i64 ta, .int .i64 tl, .int .i64 tc] 54)).alloc (.cells #[.int .i64 bk, .int .i64 bn, .string bx, .int .i64 ba, .int .i64 bl, .int .i64 bc] 54))) := ⟨⟨heap_alloc (heap_new w _) _, heap_new' _ _ _ (by simp), ((Below.refl _ w).alloc (Nat.le_refl _) _).alloc (by simp) _⟩⟩
  have h1 : (tk == bk) = false := by rw [beq_eq_false_iff_ne]; exact h
  go_enter Tryz.func143, Tryz.ntmps143
  go_upto_region 1 with (fail)
  generalize ((w.alloc (.cells #[.int .i64 tk, .int .i64 tn, .string tx, .int .i64 ta, .int .i64 tl, .int .i64 tc] 54)).alloc (.cells #[.int .i64 bk, .int .i64 bn, .string bx, .int .i64 ba, .int .i64 bl, .int .i64 bc] 54)) = W1 at hF ⊢
  refine region_class (C := TwoAt w ⟨tk, tn, tx, ta, tl, tc⟩ ⟨bk, bn, bx, ba, bl, bc⟩) (by kernel_rfl) (by kernel_rfl) (hF.out.step (Below.refl _ _).drew) ?_
  repeat (first
    | go_big_quiet_skip
    | (go_big_quiet_want; first
        | (refine quiet_ld (.agg #[.int .i64 tk, .int .i64 tn, .string tx, .int .i64 ta, .int .i64 tl, .int .i64 tc]) ?_ ?_; (intro W hW; have k0 : W.cell? ⟨w.heap.size, 0, none⟩ = some (.int .i64 tk) := cell_of hW.one 0; have k1 : W.cell? ⟨w.heap.size, 1, none⟩ = some (.int .i64 tn) := cell_of hW.one 1; have k2 : W.cell? ⟨w.heap.size, 2, none⟩ = some (.string tx) := cell_of hW.one 2; have k3 : W.cell? ⟨w.heap.size, 3, none⟩ = some (.int .i64 ta) := cell_of hW.one 3; have k4 : W.cell? ⟨w.heap.size, 4, none⟩ = some (.int .i64 tl) := cell_of hW.one 4; have k5 : W.cell? ⟨w.heap.size, 5, none⟩ = some (.int .i64 tc) := cell_of hW.one 5; go_simp); (try simp only [Act.put, List.setIfInBounds_toArray, List.set_cons_zero, List.set_cons_succ]); go_big_quiet_on)
        | (refine quiet_ld (.agg #[.int .i64 bk, .int .i64 bn, .string bx, .int .i64 ba, .int .i64 bl, .int .i64 bc]) ?_ ?_; (intro W hW; have k0 : W.cell? ⟨w.heap.size + 1, 0, none⟩ = some (.int .i64 bk) := cell_of hW.two 0; have k1 : W.cell? ⟨w.heap.size + 1, 1, none⟩ = some (.int .i64 bn) := cell_of hW.two 1; have k2 : W.cell? ⟨w.heap.size + 1, 2, none⟩ = some (.string bx) := cell_of hW.two 2; have k3 : W.cell? ⟨w.heap.size + 1, 3, none⟩ = some (.int .i64 ba) := cell_of hW.two 3; have k4 : W.cell? ⟨w.heap.size + 1, 4, none⟩ = some (.int .i64 bl) := cell_of hW.two 4; have k5 : W.cell? ⟨w.heap.size + 1, 5, none⟩ = some (.int .i64 bc) := cell_of hW.two 5; go_simp); (try simp only [Act.put, List.setIfInBounds_toArray, List.set_cons_zero, List.set_cons_succ]); go_big_quiet_on)
        | (go_big_quiet_op; go_big_quiet_on)
        | (go_big_quiet_op; refine ⟨_, fun _ _ => rfl, ?_⟩; go_big_quiet_on)
        | (go_big_quiet_op; apply Exists.intro; apply And.intro; (intro W hW; (with_reducible refine (HA.out W).mono ?_); exact fun e w' ⟨he, hb⟩ => ⟨he, hW.step hb⟩); go_big_quiet_on)
        | (go_big_quiet_op; apply Exists.intro; apply And.intro; (intro W hW; (with_reducible refine (HB.out W).mono ?_); exact fun e w' ⟨he, hb⟩ => ⟨he, hW.step hb⟩); go_big_quiet_on)))
  refine wpQuiet_nil ?_
  intro W2 hF2
  have HF2 := Aside0.mk hF2
  clear hF2
  go_wp2
  go_ret
  exact ⟨rfl, HF2.out.below⟩
set_option maxRecDepth 100000 in
set_option maxHeartbeats 8000000 in
theorem same_n (tk tn : Int) (tx : ByteArray) (ta tl tc : Int) (bn : Int) (bx : ByteArray) (ba bl bc : Int) (w : World) (h : ¬ tn = bn) :
    Calls Tryz.prog 143 #[.agg #[.int .i64 tk, .int .i64 tn, .string tx, .int .i64 ta, .int .i64 tl, .int .i64 tc], .agg #[.int .i64 tk, .int .i64 bn, .string bx, .int .i64 ba, .int .i64 bl, .int .i64 bc]] w fun e w' => e = .returned (.bool false) ∧ Below w.heap.size w w' := by
  have HA : Aside0 (∀ W, Calls Tryz.prog 144 #[.agg #[.int .i64 tk, .int .i64 tn, .string tx, .int .i64 ta, .int .i64 tl, .int .i64 tc]] W fun e w' => e = .returned (.agg #[.int .i64 tk, .int .i64 tn, .string tx]) ∧ Below W.heap.size W w') := ⟨fun W => bare_any ⟨tk, tn, tx, ta, tl, tc⟩ W⟩
  have HB : Aside0 (∀ W, Calls Tryz.prog 144 #[.agg #[.int .i64 tk, .int .i64 bn, .string bx, .int .i64 ba, .int .i64 bl, .int .i64 bc]] W fun e w' => e = .returned (.agg #[.int .i64 tk, .int .i64 bn, .string bx]) ∧ Below W.heap.size W w') := ⟨fun W => bare_any ⟨tk, bn, bx, ba, bl, bc⟩ W⟩
  have hF : Aside0 (TwoAt w ⟨tk, tn, tx, ta, tl, tc⟩ ⟨tk, bn, bx, ba, bl, bc⟩ ((w.alloc (.cells #[.int .i64 tk, .int .i64 tn, .string tx, .int .i64 ta, .int .i64 tl, .int .i64 tc] 54)).alloc (.cells #[.int .i64 tk, .int .i64 bn, .string bx, .int .i64 ba, .int .i64 bl, .int .i64 bc] 54))) := ⟨⟨heap_alloc (heap_new w _) _, heap_new' _ _ _ (by simp), ((Below.refl _ w).alloc (Nat.le_refl _) _).alloc (by simp) _⟩⟩
  have h1 : (tn == bn) = false := by rw [beq_eq_false_iff_ne]; exact h
  go_enter Tryz.func143, Tryz.ntmps143
  go_upto_region 1 with (fail)
  generalize ((w.alloc (.cells #[.int .i64 tk, .int .i64 tn, .string tx, .int .i64 ta, .int .i64 tl, .int .i64 tc] 54)).alloc (.cells #[.int .i64 tk, .int .i64 bn, .string bx, .int .i64 ba, .int .i64 bl, .int .i64 bc] 54)) = W1 at hF ⊢
  refine region_class (C := TwoAt w ⟨tk, tn, tx, ta, tl, tc⟩ ⟨tk, bn, bx, ba, bl, bc⟩) (by kernel_rfl) (by kernel_rfl) (hF.out.step (Below.refl _ _).drew) ?_
  repeat (first
    | go_big_quiet_skip
    | (go_big_quiet_want; first
        | (refine quiet_ld (.agg #[.int .i64 tk, .int .i64 tn, .string tx, .int .i64 ta, .int .i64 tl, .int .i64 tc]) ?_ ?_; (intro W hW; have k0 : W.cell? ⟨w.heap.size, 0, none⟩ = some (.int .i64 tk) := cell_of hW.one 0; have k1 : W.cell? ⟨w.heap.size, 1, none⟩ = some (.int .i64 tn) := cell_of hW.one 1; have k2 : W.cell? ⟨w.heap.size, 2, none⟩ = some (.string tx) := cell_of hW.one 2; have k3 : W.cell? ⟨w.heap.size, 3, none⟩ = some (.int .i64 ta) := cell_of hW.one 3; have k4 : W.cell? ⟨w.heap.size, 4, none⟩ = some (.int .i64 tl) := cell_of hW.one 4; have k5 : W.cell? ⟨w.heap.size, 5, none⟩ = some (.int .i64 tc) := cell_of hW.one 5; go_simp); (try simp only [Act.put, List.setIfInBounds_toArray, List.set_cons_zero, List.set_cons_succ]); go_big_quiet_on)
        | (refine quiet_ld (.agg #[.int .i64 tk, .int .i64 bn, .string bx, .int .i64 ba, .int .i64 bl, .int .i64 bc]) ?_ ?_; (intro W hW; have k0 : W.cell? ⟨w.heap.size + 1, 0, none⟩ = some (.int .i64 tk) := cell_of hW.two 0; have k1 : W.cell? ⟨w.heap.size + 1, 1, none⟩ = some (.int .i64 bn) := cell_of hW.two 1; have k2 : W.cell? ⟨w.heap.size + 1, 2, none⟩ = some (.string bx) := cell_of hW.two 2; have k3 : W.cell? ⟨w.heap.size + 1, 3, none⟩ = some (.int .i64 ba) := cell_of hW.two 3; have k4 : W.cell? ⟨w.heap.size + 1, 4, none⟩ = some (.int .i64 bl) := cell_of hW.two 4; have k5 : W.cell? ⟨w.heap.size + 1, 5, none⟩ = some (.int .i64 bc) := cell_of hW.two 5; go_simp); (try simp only [Act.put, List.setIfInBounds_toArray, List.set_cons_zero, List.set_cons_succ]); go_big_quiet_on)
        | (go_big_quiet_op; go_big_quiet_on)
        | (go_big_quiet_op; refine ⟨_, fun _ _ => rfl, ?_⟩; go_big_quiet_on)
        | (go_big_quiet_op; apply Exists.intro; apply And.intro; (intro W hW; (with_reducible refine (HA.out W).mono ?_); exact fun e w' ⟨he, hb⟩ => ⟨he, hW.step hb⟩); go_big_quiet_on)
        | (go_big_quiet_op; apply Exists.intro; apply And.intro; (intro W hW; (with_reducible refine (HB.out W).mono ?_); exact fun e w' ⟨he, hb⟩ => ⟨he, hW.step hb⟩); go_big_quiet_on)))
  refine wpQuiet_nil ?_
  intro W2 hF2
  have HF2 := Aside0.mk hF2
  clear hF2
  go_wp2
  go_ret
  exact ⟨rfl, HF2.out.below⟩
set_option maxRecDepth 100000 in
set_option maxHeartbeats 8000000 in
theorem same_x (tk tn : Int) (tx : ByteArray) (ta tl tc : Int) (bx : ByteArray) (ba bl bc : Int) (w : World) (h : ¬ tx.toList = bx.toList) :
    Calls Tryz.prog 143 #[.agg #[.int .i64 tk, .int .i64 tn, .string tx, .int .i64 ta, .int .i64 tl, .int .i64 tc], .agg #[.int .i64 tk, .int .i64 tn, .string bx, .int .i64 ba, .int .i64 bl, .int .i64 bc]] w fun e w' => e = .returned (.bool false) ∧ Below w.heap.size w w' := by
  have HA : Aside0 (∀ W, Calls Tryz.prog 144 #[.agg #[.int .i64 tk, .int .i64 tn, .string tx, .int .i64 ta, .int .i64 tl, .int .i64 tc]] W fun e w' => e = .returned (.agg #[.int .i64 tk, .int .i64 tn, .string tx]) ∧ Below W.heap.size W w') := ⟨fun W => bare_any ⟨tk, tn, tx, ta, tl, tc⟩ W⟩
  have HB : Aside0 (∀ W, Calls Tryz.prog 144 #[.agg #[.int .i64 tk, .int .i64 tn, .string bx, .int .i64 ba, .int .i64 bl, .int .i64 bc]] W fun e w' => e = .returned (.agg #[.int .i64 tk, .int .i64 tn, .string bx]) ∧ Below W.heap.size W w') := ⟨fun W => bare_any ⟨tk, tn, bx, ba, bl, bc⟩ W⟩
  have hF : Aside0 (TwoAt w ⟨tk, tn, tx, ta, tl, tc⟩ ⟨tk, tn, bx, ba, bl, bc⟩ ((w.alloc (.cells #[.int .i64 tk, .int .i64 tn, .string tx, .int .i64 ta, .int .i64 tl, .int .i64 tc] 54)).alloc (.cells #[.int .i64 tk, .int .i64 tn, .string bx, .int .i64 ba, .int .i64 bl, .int .i64 bc] 54))) := ⟨⟨heap_alloc (heap_new w _) _, heap_new' _ _ _ (by simp), ((Below.refl _ w).alloc (Nat.le_refl _) _).alloc (by simp) _⟩⟩
  have h1 : (tx.toList == bx.toList) = false := by rw [beq_eq_false_iff_ne]; exact h
  go_enter Tryz.func143, Tryz.ntmps143
  go_upto_region 1 with (fail)
  generalize ((w.alloc (.cells #[.int .i64 tk, .int .i64 tn, .string tx, .int .i64 ta, .int .i64 tl, .int .i64 tc] 54)).alloc (.cells #[.int .i64 tk, .int .i64 tn, .string bx, .int .i64 ba, .int .i64 bl, .int .i64 bc] 54)) = W1 at hF ⊢
  refine region_class (C := TwoAt w ⟨tk, tn, tx, ta, tl, tc⟩ ⟨tk, tn, bx, ba, bl, bc⟩) (by kernel_rfl) (by kernel_rfl) (hF.out.step (Below.refl _ _).drew) ?_
  repeat (first
    | go_big_quiet_skip
    | (go_big_quiet_want; first
        | (refine quiet_ld (.agg #[.int .i64 tk, .int .i64 tn, .string tx, .int .i64 ta, .int .i64 tl, .int .i64 tc]) ?_ ?_; (intro W hW; have k0 : W.cell? ⟨w.heap.size, 0, none⟩ = some (.int .i64 tk) := cell_of hW.one 0; have k1 : W.cell? ⟨w.heap.size, 1, none⟩ = some (.int .i64 tn) := cell_of hW.one 1; have k2 : W.cell? ⟨w.heap.size, 2, none⟩ = some (.string tx) := cell_of hW.one 2; have k3 : W.cell? ⟨w.heap.size, 3, none⟩ = some (.int .i64 ta) := cell_of hW.one 3; have k4 : W.cell? ⟨w.heap.size, 4, none⟩ = some (.int .i64 tl) := cell_of hW.one 4; have k5 : W.cell? ⟨w.heap.size, 5, none⟩ = some (.int .i64 tc) := cell_of hW.one 5; go_simp); (try simp only [Act.put, List.setIfInBounds_toArray, List.set_cons_zero, List.set_cons_succ]); go_big_quiet_on)
        | (refine quiet_ld (.agg #[.int .i64 tk, .int .i64 tn, .string bx, .int .i64 ba, .int .i64 bl, .int .i64 bc]) ?_ ?_; (intro W hW; have k0 : W.cell? ⟨w.heap.size + 1, 0, none⟩ = some (.int .i64 tk) := cell_of hW.two 0; have k1 : W.cell? ⟨w.heap.size + 1, 1, none⟩ = some (.int .i64 tn) := cell_of hW.two 1; have k2 : W.cell? ⟨w.heap.size + 1, 2, none⟩ = some (.string bx) := cell_of hW.two 2; have k3 : W.cell? ⟨w.heap.size + 1, 3, none⟩ = some (.int .i64 ba) := cell_of hW.two 3; have k4 : W.cell? ⟨w.heap.size + 1, 4, none⟩ = some (.int .i64 bl) := cell_of hW.two 4; have k5 : W.cell? ⟨w.heap.size + 1, 5, none⟩ = some (.int .i64 bc) := cell_of hW.two 5; go_simp); (try simp only [Act.put, List.setIfInBounds_toArray, List.set_cons_zero, List.set_cons_succ]); go_big_quiet_on)
        | (go_big_quiet_op; go_big_quiet_on)
        | (go_big_quiet_op; refine ⟨_, fun _ _ => rfl, ?_⟩; go_big_quiet_on)
        | (go_big_quiet_op; apply Exists.intro; apply And.intro; (intro W hW; (with_reducible refine (HA.out W).mono ?_); exact fun e w' ⟨he, hb⟩ => ⟨he, hW.step hb⟩); go_big_quiet_on)
        | (go_big_quiet_op; apply Exists.intro; apply And.intro; (intro W hW; (with_reducible refine (HB.out W).mono ?_); exact fun e w' ⟨he, hb⟩ => ⟨he, hW.step hb⟩); go_big_quiet_on)))
  refine wpQuiet_nil ?_
  intro W2 hF2
  have HF2 := Aside0.mk hF2
  clear hF2
  go_wp2
  go_ret
  exact ⟨rfl, HF2.out.below⟩
set_option maxRecDepth 100000 in
set_option maxHeartbeats 8000000 in
theorem same_all (tk tn : Int) (tx : ByteArray) (ta tl tc : Int)  (ba bl bc : Int) (w : World)  :
    Calls Tryz.prog 143 #[.agg #[.int .i64 tk, .int .i64 tn, .string tx, .int .i64 ta, .int .i64 tl, .int .i64 tc], .agg #[.int .i64 tk, .int .i64 tn, .string tx, .int .i64 ba, .int .i64 bl, .int .i64 bc]] w fun e w' => e = .returned (.bool true) ∧ Below w.heap.size w w' := by
  have HA : Aside0 (∀ W, Calls Tryz.prog 144 #[.agg #[.int .i64 tk, .int .i64 tn, .string tx, .int .i64 ta, .int .i64 tl, .int .i64 tc]] W fun e w' => e = .returned (.agg #[.int .i64 tk, .int .i64 tn, .string tx]) ∧ Below W.heap.size W w') := ⟨fun W => bare_any ⟨tk, tn, tx, ta, tl, tc⟩ W⟩
  have HB : Aside0 (∀ W, Calls Tryz.prog 144 #[.agg #[.int .i64 tk, .int .i64 tn, .string tx, .int .i64 ba, .int .i64 bl, .int .i64 bc]] W fun e w' => e = .returned (.agg #[.int .i64 tk, .int .i64 tn, .string tx]) ∧ Below W.heap.size W w') := ⟨fun W => bare_any ⟨tk, tn, tx, ba, bl, bc⟩ W⟩
  have hF : Aside0 (TwoAt w ⟨tk, tn, tx, ta, tl, tc⟩ ⟨tk, tn, tx, ba, bl, bc⟩ ((w.alloc (.cells #[.int .i64 tk, .int .i64 tn, .string tx, .int .i64 ta, .int .i64 tl, .int .i64 tc] 54)).alloc (.cells #[.int .i64 tk, .int .i64 tn, .string tx, .int .i64 ba, .int .i64 bl, .int .i64 bc] 54))) := ⟨⟨heap_alloc (heap_new w _) _, heap_new' _ _ _ (by simp), ((Below.refl _ w).alloc (Nat.le_refl _) _).alloc (by simp) _⟩⟩
  go_enter Tryz.func143, Tryz.ntmps143
  go_upto_region 1 with (fail)
  generalize ((w.alloc (.cells #[.int .i64 tk, .int .i64 tn, .string tx, .int .i64 ta, .int .i64 tl, .int .i64 tc] 54)).alloc (.cells #[.int .i64 tk, .int .i64 tn, .string tx, .int .i64 ba, .int .i64 bl, .int .i64 bc] 54)) = W1 at hF ⊢
  refine region_class (C := TwoAt w ⟨tk, tn, tx, ta, tl, tc⟩ ⟨tk, tn, tx, ba, bl, bc⟩) (by kernel_rfl) (by kernel_rfl) (hF.out.step (Below.refl _ _).drew) ?_
  repeat (first
    | go_big_quiet_skip
    | (go_big_quiet_want; first
        | (refine quiet_ld (.agg #[.int .i64 tk, .int .i64 tn, .string tx, .int .i64 ta, .int .i64 tl, .int .i64 tc]) ?_ ?_; (intro W hW; have k0 : W.cell? ⟨w.heap.size, 0, none⟩ = some (.int .i64 tk) := cell_of hW.one 0; have k1 : W.cell? ⟨w.heap.size, 1, none⟩ = some (.int .i64 tn) := cell_of hW.one 1; have k2 : W.cell? ⟨w.heap.size, 2, none⟩ = some (.string tx) := cell_of hW.one 2; have k3 : W.cell? ⟨w.heap.size, 3, none⟩ = some (.int .i64 ta) := cell_of hW.one 3; have k4 : W.cell? ⟨w.heap.size, 4, none⟩ = some (.int .i64 tl) := cell_of hW.one 4; have k5 : W.cell? ⟨w.heap.size, 5, none⟩ = some (.int .i64 tc) := cell_of hW.one 5; go_simp); (try simp only [Act.put, List.setIfInBounds_toArray, List.set_cons_zero, List.set_cons_succ]); go_big_quiet_on)
        | (refine quiet_ld (.agg #[.int .i64 tk, .int .i64 tn, .string tx, .int .i64 ba, .int .i64 bl, .int .i64 bc]) ?_ ?_; (intro W hW; have k0 : W.cell? ⟨w.heap.size + 1, 0, none⟩ = some (.int .i64 tk) := cell_of hW.two 0; have k1 : W.cell? ⟨w.heap.size + 1, 1, none⟩ = some (.int .i64 tn) := cell_of hW.two 1; have k2 : W.cell? ⟨w.heap.size + 1, 2, none⟩ = some (.string tx) := cell_of hW.two 2; have k3 : W.cell? ⟨w.heap.size + 1, 3, none⟩ = some (.int .i64 ba) := cell_of hW.two 3; have k4 : W.cell? ⟨w.heap.size + 1, 4, none⟩ = some (.int .i64 bl) := cell_of hW.two 4; have k5 : W.cell? ⟨w.heap.size + 1, 5, none⟩ = some (.int .i64 bc) := cell_of hW.two 5; go_simp); (try simp only [Act.put, List.setIfInBounds_toArray, List.set_cons_zero, List.set_cons_succ]); go_big_quiet_on)
        | (go_big_quiet_op; go_big_quiet_on)
        | (go_big_quiet_op; refine ⟨_, fun _ _ => rfl, ?_⟩; go_big_quiet_on)
        | (go_big_quiet_op; apply Exists.intro; apply And.intro; (intro W hW; (with_reducible refine (HA.out W).mono ?_); exact fun e w' ⟨he, hb⟩ => ⟨he, hW.step hb⟩); go_big_quiet_on)
        | (go_big_quiet_op; apply Exists.intro; apply And.intro; (intro W hW; (with_reducible refine (HB.out W).mono ?_); exact fun e w' ⟨he, hb⟩ => ⟨he, hW.step hb⟩); go_big_quiet_on)))
  refine wpQuiet_nil ?_
  intro W2 hF2
  have HF2 := Aside0.mk hF2
  clear hF2
  go_wp2
  go_ret
  exact ⟨rfl, HF2.out.below⟩
theorem sameBare_any (a b : Tok) (w : World) :
    Calls Tryz.prog 143 #[.agg a.cells, .agg b.cells] w fun e w' => (∃ v, e = .returned (.bool v) ∧ (v = true ↔ a.kind = b.kind ∧ a.num = b.num ∧ a.text = b.text)) ∧ Below w.heap.size w w' := by
  obtain ⟨tk, tn, tx, ta, tl, tc⟩ := a
  obtain ⟨bk, bn, bx, ba, bl, bc⟩ := b
  simp only [Tok.cells]
  by_cases h1 : tk = bk
  · subst h1
    by_cases h2 : tn = bn
    · subst h2
      by_cases h3 : tx.toList = bx.toList
      · have h4 : tx = bx := by
          rw [ByteArray.toList_eq, ByteArray.toList_eq] at h3
          exact ByteArray.ext (Array.toList_inj.1 h3)
        subst h4
        exact (same_all tk tn tx ta tl tc ba bl bc w).mono fun e w' ⟨he, hb⟩ => ⟨⟨true, he, by simp⟩, hb⟩
      · exact (same_x tk tn tx ta tl tc bx ba bl bc w h3).mono fun e w' ⟨he, hb⟩ => ⟨⟨false, he, by simp only [Bool.false_eq_true, false_iff, true_and]; exact fun h => h3 (by rw [h])⟩, hb⟩
    · exact (same_n tk tn tx ta tl tc bn bx ba bl bc w h2).mono fun e w' ⟨he, hb⟩ => ⟨⟨false, he, by simp [h2]⟩, hb⟩
  · exact (same_k tk tn tx ta tl tc bk bn bx ba bl bc w h1).mono fun e w' ⟨he, hb⟩ => ⟨⟨false, he, by simp [h1]⟩, hb⟩
end Go.Proofs.YtfnhjdehlikbaaaGreatDoor.Lx
namespace Go.Proofs.YtfnhjdehlikbaaaGreatDoor.Lx
open Go.RowKit Go.Proofs.YtfnhjdehlikbaaaGreatDoorW.PrintWords
def SameN (m l : List Tok) : Prop := m.length = l.length ∧ ∀ (k : Nat) a b, m[k]? = some a → l[k]? = some b → a.kind = b.kind ∧ a.num = b.num ∧ a.text = b.text
theorem sameN_iff {m l : List Tok} (hm : ∀ t ∈ m, WfT t) (hl : ∀ t ∈ l, WfT t) : SameN m l ↔ SameP m l :=
  ⟨fun h => ⟨h.1, fun k a b ha hb => ⟨(h.2 k a b ha hb).1, (h.2 k a b ha hb).2.2⟩⟩,
   fun h => ⟨h.1, fun k a b ha hb => ⟨(h.2 k a b ha hb).1, num_of (hm a (List.mem_of_getElem? ha)) (hl b (List.mem_of_getElem? hb)) (h.2 k a b ha hb).1 (h.2 k a b ha hb).2, (h.2 k a b ha hb).2⟩⟩⟩
set_option maxRecDepth 100000 in
set_option maxHeartbeats 8000000 in
theorem equalFunc_any (m l : List Tok) (A0 A1 : Option Addr) (c0 c1 : Nat) (w : World) (hm : m.length ≤ 1000000) (h0 : SrcC A0 m w) (h1 : SrcC A1 l w) (hl : l.length ≤ 1000000) :
    Calls Tryz.prog 142 #[.slice A0 m.length c0, .slice A1 l.length c1, .func (.func 143) #[] #[]] w fun e w' => (∃ v, e = .returned (.bool v) ∧ (v = true ↔ SameN m l)) ∧ Below w.heap.size w w' := by
  by_cases hlen : m.length = l.length
  · have HS0 := Aside0.mk h0
    have HS1 := Aside0.mk h1
    have HLN := Aside0.mk hlen
    obtain ⟨n, hn⟩ : ∃ n, m.length = n := ⟨_, rfl⟩
    have hn2 : l.length = n := by omega
    rw [hn2, hn]
    rw [hn] at hm
    have HN := Aside0.mk hn
    have HN2 := Aside0.mk hn2
    clear h0 h1 hlen hn hn2 hl
    go_enter Tryz.func142, Tryz.ntmps142
    go_wp2
    go_loopg [17] n (fun f t17 wr => ∃ i : Nat, t17 = .int .i64 (i : Int) ∧ i + f = n ∧ Aside0 (Below w.heap.size w wr ∧ ∀ (k : Nat) a b, k < i → m[k]? = some a → l[k]? = some b → a.kind = b.kind ∧ a.num = b.num ∧ a.text = b.text))
    case atStart => exact ⟨0, rfl, by omega, ⟨Below.refl _ _, fun k a b hk => absurd hk (Nat.not_lt_zero k)⟩⟩
    case round =>
      obtain ⟨i, rfl, hif, hA⟩ := hrel
      have HB := Aside0.mk hA.out.1
      have HE := Aside0.mk hA.out.2
      clear hA
      by_cases hi : i < n
      · obtain ⟨f, rfl⟩ : ∃ f, gk = f + 1 := ⟨gk - 1, by omega⟩
        have hi2 : (i : Int) < (n : Int) := by omega
        have hl1 : i < m.length := by rw [HN.out]; exact hi
        have hl2 : i < l.length := by rw [HN2.out]; exact hi
        have hta := List.getElem?_eq_getElem hl1
        have htb := List.getElem?_eq_getElem hl2
        generalize m[i] = a at hta
        generalize l[i] = b at htb
        have HTA := Aside0.mk hta
        have HTB := Aside0.mk htb
        obtain ⟨g, rfl, x0, x1, x2, x3, x4, x5⟩ := (HS0.out.below HB.out) i _ hta
        obtain ⟨q, rfl, z0, z1, z2, z3, z4, z5⟩ := (HS1.out.below HB.out) i _ htb
        have HSB := Aside0.mk (fun W => sameBare_any a b W)
        have hgw : g < wr.heap.size := World.block_lt_of_cell? _ _ x0
        have hqw : q < wr.heap.size := World.block_lt_of_cell? _ _ z0
        obtain ⟨tk, tn, tx, ta, tl, tc⟩ := a
        obtain ⟨bk, bn, bx, ba, bl, bc⟩ := b
        simp only [Tok.cells] at x0 x1 x2 x3 x4 x5 z0 z1 z2 z3 z4 z5 HSB
        clear hta htb hl1 hl2
        go_wp2_with (go_at_call 143; (with_reducible refine (HSB.out _).mono ?_); rintro e w2 ⟨⟨v, rfl, hv⟩, hb⟩; have HV := Aside0.mk hv; have HB2 := Aside0.mk ((((Below.refl _ wr).alloc (Nat.le_refl _) (.cells #[.int .i64 tk, .int .i64 tn, .string tx, .int .i64 ta, .int .i64 tl, .int .i64 tc] 54)).alloc (by simp) (.cells #[.int .i64 bk, .int .i64 bn, .string bx, .int .i64 ba, .int .i64 bl, .int .i64 bc] 54)).trans (hb.mono (by simp; omega))); clear hb hv; cases v)
        · go_ret
          refine ⟨⟨false, rfl, ?_⟩, HB.out.trans (HB2.out.mono HB.out.size)⟩
          simp only [Bool.false_eq_true, false_iff]
          intro hs
          have h9 := HV.out
          have h8 := hs.2 i _ _ HTA.out HTB.out
          simp only at h8 h9
          simp [h8] at h9
        · go_roundg f
          case measure => omega
          case rel =>
            refine ⟨i + 1, by go_num, by omega, ⟨HB.out.trans (HB2.out.mono HB.out.size), fun k a b hk ha hb => ?_⟩⟩
            by_cases hki : k = i
            · subst hki
              rw [HTA.out] at ha
              rw [HTB.out] at hb
              injection ha with ha
              injection hb with hb
              rw [← ha, ← hb]
              have h9 := HV.out
              simpa using h9
            · exact HE.out k a b (by omega) ha hb
      · obtain rfl : i = n := by omega
        go_wp2
        go_ret
        refine ⟨⟨true, rfl, ?_⟩, HB.out⟩
        simp only [true_iff]
        exact ⟨HLN.out, fun k a b ha hb => HE.out k a b (by have := (List.getElem?_eq_some_iff.1 ha).1; rw [HN.out] at this; exact this) ha hb⟩
  · obtain ⟨n, hn⟩ : ∃ n, m.length = n := ⟨_, rfl⟩
    obtain ⟨q, hq⟩ : ∃ q, l.length = q := ⟨_, rfl⟩
    have HL := Aside0.mk hlen
    rw [hn, hq]
    rw [hn] at hm
    rw [hq] at hl
    have hne : ((n : Int) == (q : Int)) = false := by rw [beq_eq_false_iff_ne]; intro h; exact HL.out (by omega)
    have hne2 : ¬ (n : Int) = (q : Int) := fun h => HL.out (by omega)
    have hne3 : ¬ n = q := fun h => HL.out (by omega)
    clear h0 h1 hlen hn hq
    go_enter Tryz.func142, Tryz.ntmps142
    go_wp2
    go_ret
    exact ⟨⟨false, rfl, by simp only [Bool.false_eq_true, false_iff]; exact fun h => HL.out h.1⟩, Below.refl _ _⟩
set_option maxRecDepth 100000 in
set_option maxHeartbeats 8000000 in
theorem sameTokens_any (s : ByteArray) (l : List Tok) (A : Option Addr) (c : Nat) (w : World) (hs : s.size ≤ 100000) (hl : l.length ≤ 1000000) (hw : ∀ t ∈ l, WfT t) (h : SrcC A l w) :
    Calls Tryz.prog 107 #[.string s, .slice A l.length c] w fun e w' => (∃ v, e = .returned (.bool v) ∧ (v = true ↔ (rawF s).2.2 = 0 ∧ SameP (rawF s).1 l)) ∧ Below w.heap.size w w' := by
  have HS := Aside0.mk h
  have HRW : Aside0 (∀ W, Calls Tryz.prog 22 #[.string s] W fun e w' => ∃ A c, e = .returned (.tuple #[.slice A (rawF s).1.length c, .int .i64 (rawF s).2.1, .int .i64 (rawF s).2.2]) ∧ SrcC A (rawF s).1 w' ∧ Below W.heap.size W w') :=
    ⟨fun W => (rawF_any s W (by omega)).mono fun e w' ⟨v, he, hr, hb⟩ => by
      obtain ⟨A, c, rfl, hc, hs⟩ := srcC_reads hr
      exact ⟨A, c, he, hs, hb⟩⟩
  have hok := rawOk_all s
  have hsame := sameN_iff (m := (rawF s).1) (l := l) (fun t ht => by
    obtain ⟨i, hi, rfl⟩ := List.getElem_of_mem ht
    exact (hok.1 i _ (List.getElem?_eq_getElem hi)).wf) hw
  have hmlen := hok.2
  generalize rawF s = R at HRW hsame hmlen ⊢
  obtain ⟨m, at1, e1⟩ := R
  simp only at HRW hsame hmlen ⊢
  have HSM := Aside0.mk hsame
  have HEF := Aside0.mk (fun A0 c0 W (h0 : SrcC A0 m W) (h1 : SrcC A l W) => equalFunc_any m l A0 A c0 c W (by omega) h0 h1 hl)
  obtain ⟨q, hq⟩ : ∃ q, l.length = q := ⟨_, rfl⟩
  obtain ⟨n, hn⟩ : ∃ n, m.length = n := ⟨_, rfl⟩
  rw [hq] at HEF ⊢
  rw [hn] at HEF HRW
  clear h hok hsame hw hq hn hl
  by_cases he : e1 = 0
  · subst he
    go_enter Tryz.func107, Tryz.ntmps107
    go_wp2_with (first
      | (go_at_call 22; (with_reducible refine (HRW.out _).mono ?_); rintro e w1 ⟨A1, c1, rfl, hsr, hb⟩; have HB1 := Aside0.mk hb; have HS1 := Aside0.mk hsr; clear hsr hb)
      | (go_at_call 142; (with_reducible refine (HEF.out _ _ _ HS1.out (HS.out.below HB1.out)).mono ?_); rintro e w2 ⟨⟨v, rfl, hv⟩, hb⟩; have HV := Aside0.mk hv; have HB2 := Aside0.mk hb; clear hb hv))
    go_ret
    refine ⟨⟨v, rfl, ?_⟩, HB1.out.trans (HB2.out.mono HB1.out.size)⟩
    rw [HV.out, HSM.out]
    simp
  · have he2 : (e1 == 0) = false := by rw [beq_eq_false_iff_ne]; exact he
    have HNE := Aside0.mk he
    clear he
    go_enter Tryz.func107, Tryz.ntmps107
    go_wp2_with (go_at_call 22; (with_reducible refine (HRW.out _).mono ?_); rintro e w1 ⟨A1, c1, rfl, hsr, hb⟩; have HB1 := Aside0.mk hb; clear hsr hb)
    go_ret
    exact ⟨⟨false, rfl, by simp only [Bool.false_eq_true, false_iff]; exact fun h => HNE.out h.1⟩, HB1.out⟩
end Go.Proofs.YtfnhjdehlikbaaaGreatDoor.Lx
namespace Go.Proofs.YtfnhjdehlikbaaaGreatDoor.Lx
open Go.RowKit Go.Proofs.YtfnhjdehlikbaaaGreatDoorW.PrintWords
structure RowBox (w : World) (b sl el k n : Nat) (vals : List Value) (v : Value) (W : World) : Prop where
  box : W.heap[b]? = some (.cells #[v] sl)
  own : W.ownsRow (b + 1) el k v n vals
  below : Below w.heap.size w W
  lo : w.heap.size ≤ b
  size : b + 1 ≤ W.heap.size
theorem RowBox.step {w : World} {b sl el k n : Nat} {vals : List Value} {v : Value} {W W' : World} (h : RowBox w b sl el k n vals v W) (hb : Below W.heap.size W W') : RowBox w b sl el k n vals v W' :=
  ⟨(hb.block _ (heap_lt h.box)).trans h.box, own_move h.own (fun j hj => hb.block j (own_lt h.own j hj)), h.below.trans (hb.mono h.below.size), h.lo, Nat.le_trans h.size hb.size⟩
theorem RowBox.alloc {w : World} {b sl el k n : Nat} {vals : List Value} {v : Value} {W : World} (h : RowBox w b sl el k n vals v W) (o : Obj) : RowBox w b sl el k n vals v (W.alloc o) := h.step ((Below.refl _ W).alloc (Nat.le_refl _) o)
theorem RowBox.grownBox {w : World} {b sl el k n : Nat} {vals : List Value} {v : Value} {W W' : World} (h : RowBox w b sl el k n vals v W) (hG : W.grownBy W' v.ownBlock) : W'.heap[b]? = some (.cells #[v] sl) :=
  (hG.block b (heap_lt h.box) (fun e => by have := own_base h.own b e.symm; omega)).trans h.box
theorem RowBox.put {w : World} {b sl el k n n' : Nat} {vals vals' : List Value} {v v' : Value} {W W' : World} (h : RowBox w b sl el k n vals v W) (hG : W.grownBy W' v.ownBlock) (hO : W'.ownsRow (b + 1) el k v' n' vals') : RowBox w b sl el k n' vals' v' (W'.setCell ⟨b, 0, none⟩ v') := by
  refine ⟨heap_set (h.grownBox hG) 0 v', own_move hO (fun j hj => heap_set_other (fun e => by have := own_base hO j hj; simp at e; omega) _), ?_, h.lo, ?_⟩
  · exact (h.below.grown hG h.below.size (fun j hj => by have := own_base h.own j hj; have := h.lo; omega)).setCell (p := ⟨b, 0, none⟩) h.lo _
  · simp [World.setCell]; exact Nat.le_trans h.size hG.size
theorem RowBox.start {w W : World} (sl el k : Nat) (h : Below w.heap.size w W) : RowBox w W.heap.size sl el k 0 [] (.slice none 0 0) (W.alloc (.cells #[.slice none 0 0] sl)) :=
  ⟨heap_new W _, World.ownsRow_nil _ _ _ _, h.alloc h.size _, h.size, by simp⟩
theorem RowBox.far {w : World} {b sl el k n j : Nat} {vals : List Value} {v v' : Value} {W W' : World} {o : Obj} (h : RowBox w b sl el k n vals v W) (hG : W.grownBy W' v.ownBlock) (hj : W.heap[j]? = some o) (hb : j ≠ b) (ho : v.ownBlock ≠ some j) : (W'.setCell ⟨b, 0, none⟩ v').heap[j]? = some o :=
  (heap_set_other hb _).trans ((hG.block j (heap_lt hj) (fun e => ho e.symm)).trans hj)
set_option maxRecDepth 100000 in
set_option maxHeartbeats 8000000 in
theorem told70_any (s : ByteArray) (l : List Tok) (A : Option Addr) (c : Nat) (b : Nat) (w : World) (hl : l.length ≤ 1000000) (hw : ∀ t ∈ l, WfT t) (h : SrcC A l w) (n : Int) (hn : n = (s.size : Int))
    (hf : s.size ≤ 65536 → Calls Tryz.prog 70 #[.pointer (some ⟨b, 0, none⟩)] w fun e w' => e = .returned (.string s) ∧ Below w.heap.size w w') :
    Calls Tryz.prog 68 #[.slice A l.length c, .int .i64 n, .func (.func 70) #[] #[.pointer (some ⟨b, 0, none⟩)]] w fun e w' => e = .returned (.tuple #[.string (tellF s l).1, .int .i64 (tellF s l).2]) ∧ Below w.heap.size w w' := by
  by_cases hz : 65536 < s.size
  · rw [tellF_long hz]
    have hz2 : (65536 : Int) < n := by omega
    go_enter Tryz.func68, Tryz.ntmps68
    go_wp2
    go_ret2
    exact ⟨rfl, Below.refl _ _⟩
  · have HS := Aside0.mk h
    have HF := Aside0.mk (hf (by omega))
    have hz2 : n ≤ (65536 : Int) := by omega
    have HST := Aside0.mk (fun W (hb : Below w.heap.size w W) => sameTokens_any s l A c W (by omega) hl hw (h.below hb))
    have HR := Aside0.mk (show ((rawF s).2.2 = 0 ∧ SameP (rawF s).1 l → tellF s l = (s, 0)) ∧ (¬ ((rawF s).2.2 = 0 ∧ SameP (rawF s).1 l) → tellF s l = (⟨#[]⟩, 7)) from ⟨tellF_good hz, tellF_bad hz⟩)
    obtain ⟨q, hq⟩ : ∃ q, l.length = q := ⟨_, rfl⟩
    rw [hq] at HST ⊢
    clear h hf hz hw hl hq hn
    generalize tellF s l = R at HR ⊢
    go_enter Tryz.func68, Tryz.ntmps68
    go_wp2_with (first
      | (go_at_call 70; (with_reducible refine HF.out.mono ?_); rintro e w1 ⟨rfl, hb⟩; have HB1 := Aside0.mk hb; clear hb)
      | (go_at_call 107; (with_reducible refine (HST.out _ HB1.out).mono ?_); rintro e w2 ⟨⟨v, rfl, hv⟩, hb⟩; have HV := Aside0.mk hv; have HB2 := Aside0.mk (HB1.out.trans (hb.mono HB1.out.size)); clear hb hv; cases v))
    · go_ret2
      have h9 := HV.out
      simp only [Bool.false_eq_true, false_iff] at h9
      rw [HR.out.2 h9]
      exact ⟨rfl, HB2.out⟩
    · go_ret2
      have h9 := HV.out
      rw [HR.out.1 (by simpa using h9)]
      exact ⟨rfl, HB2.out⟩
set_option maxRecDepth 100000 in
set_option maxHeartbeats 8000000 in
theorem told69_any (s : ByteArray) (l : List Tok) (A : Option Addr) (c : Nat) (b1 b2 : Nat) (w : World) (hl : l.length ≤ 1000000) (hw : ∀ t ∈ l, WfT t) (h : SrcC A l w) (n : Int) (hn : n = (s.size : Int))
    (hf : s.size ≤ 65536 → Calls Tryz.prog 69 #[.pointer (some ⟨b1, 0, none⟩), .pointer (some ⟨b2, 0, none⟩)] w fun e w' => e = .returned (.string s) ∧ Below w.heap.size w w') :
    Calls Tryz.prog 68 #[.slice A l.length c, .int .i64 n, .func (.func 69) #[] #[.pointer (some ⟨b1, 0, none⟩), .pointer (some ⟨b2, 0, none⟩)]] w fun e w' => e = .returned (.tuple #[.string (tellF s l).1, .int .i64 (tellF s l).2]) ∧ Below w.heap.size w w' := by
  by_cases hz : 65536 < s.size
  · rw [tellF_long hz]
    have hz2 : (65536 : Int) < n := by omega
    go_enter Tryz.func68, Tryz.ntmps68
    go_wp2
    go_ret2
    exact ⟨rfl, Below.refl _ _⟩
  · have HS := Aside0.mk h
    have HF := Aside0.mk (hf (by omega))
    have hz2 : n ≤ (65536 : Int) := by omega
    have HST := Aside0.mk (fun W (hb : Below w.heap.size w W) => sameTokens_any s l A c W (by omega) hl hw (h.below hb))
    have HR := Aside0.mk (show ((rawF s).2.2 = 0 ∧ SameP (rawF s).1 l → tellF s l = (s, 0)) ∧ (¬ ((rawF s).2.2 = 0 ∧ SameP (rawF s).1 l) → tellF s l = (⟨#[]⟩, 7)) from ⟨tellF_good hz, tellF_bad hz⟩)
    obtain ⟨q, hq⟩ : ∃ q, l.length = q := ⟨_, rfl⟩
    rw [hq] at HST ⊢
    clear h hf hz hw hl hq hn
    generalize tellF s l = R at HR ⊢
    go_enter Tryz.func68, Tryz.ntmps68
    go_wp2_with (first
      | (go_at_call 69; (with_reducible refine HF.out.mono ?_); rintro e w1 ⟨rfl, hb⟩; have HB1 := Aside0.mk hb; clear hb)
      | (go_at_call 107; (with_reducible refine (HST.out _ HB1.out).mono ?_); rintro e w2 ⟨⟨v, rfl, hv⟩, hb⟩; have HV := Aside0.mk hv; have HB2 := Aside0.mk (HB1.out.trans (hb.mono HB1.out.size)); clear hb hv; cases v))
    · go_ret2
      have h9 := HV.out
      simp only [Bool.false_eq_true, false_iff] at h9
      rw [HR.out.2 h9]
      exact ⟨rfl, HB2.out⟩
    · go_ret2
      have h9 := HV.out
      rw [HR.out.1 (by simpa using h9)]
      exact ⟨rfl, HB2.out⟩
def flatT (l : List Tok) : List UInt8 := Lib.join ((l.map Tok.text).map (·.data.toList)) [32]
def lensT (l : List Tok) : Nat := (l.map (fun t => t.text.size)).sum
theorem flatT_len (l : List Tok) : (flatT l).length = (l.length - 1) + lensT l := by
  cases l with
  | nil => rfl
  | cons t l =>
    unfold flatT lensT
    rw [List.map_cons, List.map_cons, Lib.join_length]
    have h : ∀ m : List Tok, Lib.lens ((m.map Tok.text).map (·.data.toList)) = (m.map (fun t => t.text.size)).sum := by
      intro m
      induction m with
      | nil => rfl
      | cons a m ih => simp [Lib.lens] at ih ⊢; rw [ih]
    have h2 := h (t :: l)
    rw [List.map_cons, List.map_cons] at h2
    rw [h2]
    simp
theorem lensT_take {l : List Tok} {i : Nat} (h : i < l.length) : lensT (l.take (i + 1)) = lensT (l.take i) + l[i].text.size := by
  unfold lensT
  rw [List.take_succ_eq_append_getElem h, List.map_append, List.sum_append]
  simp
theorem join_none (w : World) : Calls Tryz.prog 18 #[.slice none 0 0, .string ⟨#[32]⟩] w fun e w' => e = .returned (.string ⟨#[]⟩) ∧ Below w.heap.size w w' := by
  go_enter Tryz.func18, Tryz.ntmps18
  go_wp2
  go_ret
  exact ⟨rfl, Below.refl _ _⟩
set_option maxRecDepth 100000 in
set_option maxHeartbeats 4000000 in
theorem flat70_any (l : List Tok) (w0 : World) (b : Nat) (v : Value) (w : World) (hl : l.length ≤ 1000000) (hs : (flatT l).length ≤ 65536) (h : RowBox w0 b 28 9 1 l.length ((l.map Tok.text).map Value.string) v w) :
    Calls Tryz.prog 70 #[.pointer (some ⟨b, 0, none⟩)] w fun e w' => e = .returned (.string ⟨(flatT l).toArray⟩) ∧ Below w.heap.size w w' := by
  have c0 : w.cell? ⟨b, 0, none⟩ = some v := cell_of h.box 0
  rcases h.own.2 with ⟨h1, h2⟩ | ⟨g, cap, cur, h1, h2, h3, h4, h5, h6, h7⟩
  · have hnil : l = [] := List.eq_nil_of_length_eq_zero h2
    subst hnil
    subst h1
    clear h
    go_enter Tryz.func70, Tryz.ntmps70
    go_wp2_with (go_at_call 18; (with_reducible refine (join_none _).mono ?_); rintro e w1 ⟨rfl, hb⟩; have HB := Aside0.mk hb; clear hb)
    go_ret
    exact ⟨rfl, HB.out⟩
  · subst h1
    have hj := join_at (l.map Tok.text) g cap w (fun j x hx => by
      rw [cell_of h3]
      have hj : j < l.length := by
        have := (List.getElem?_eq_some_iff.1 hx).1
        rwa [List.length_map] at this
      have : ((l.map Tok.text).map Value.string)[j]? = some (.string x) := by rw [List.getElem?_map, hx]; rfl
      rw [← h7, List.getElem?_take_of_lt (by omega)] at this
      simpa using this) (heap_lt h3) (by rw [List.length_map]; omega) (by rw [List.length_map]; omega) (by
        have : (Lib.join ((l.map Tok.text).map (·.data.toList)) [32]).length = (flatT l).length := rfl
        omega)
    rw [List.length_map] at hj
    have HJ : Aside0 (Calls Tryz.prog 18 #[.slice (some ⟨g, 0, none⟩) l.length cap, .string ⟨#[32]⟩] w fun e w' => e = .returned (.string ⟨(flatT l).toArray⟩) ∧ Below w.heap.size w w') := ⟨hj⟩
    obtain ⟨n, hn⟩ : ∃ n, l.length = n := ⟨_, rfl⟩
    rw [hn] at HJ c0
    clear h h2 h3 h4 h5 h6 h7 hj hn
    go_enter Tryz.func70, Tryz.ntmps70
    go_wp2_with (go_at_call 18; (with_reducible refine HJ.out.mono ?_); rintro e w1 ⟨rfl, hb⟩; have HB := Aside0.mk hb; clear hb)
    go_ret
    exact ⟨rfl, HB.out⟩
end Go.Proofs.YtfnhjdehlikbaaaGreatDoor.Lx
namespace Go.Proofs.YtfnhjdehlikbaaaGreatDoor.Lx
open Go.RowKit Go.Proofs.YtfnhjdehlikbaaaGreatDoorW.PrintWords
theorem RowBox.form {w : World} {b sl el k n : Nat} {vals : List Value} {v : Value} {W : World} (h : RowBox w b sl el k n vals v W) : ∃ A c, v = .slice A n c := by
  rcases h.own.2 with ⟨h1, h2⟩ | ⟨g, cap, cur, h1, _⟩
  · exact ⟨none, 0, by rw [h2]; exact h1⟩
  · exact ⟨_, _, h1⟩
theorem RowBox.cells {w : World} {b sl el k n : Nat} {vals : List Value} {v : Value} {W : World} (h : RowBox w b sl el k n vals v W) : W.cell? ⟨b, 0, none⟩ = some v ∧ W.frozen? ⟨b, 0, none⟩ = false := ⟨cell_of h.box 0, free_of h.box 0⟩
theorem flat_size (l : List Tok) : (⟨(flatT l).toArray⟩ : ByteArray).size = (flatT l).length := by show (flatT l).toArray.size = _; simp
noncomputable def flatR (l : List Tok) : ByteArray × Int := if (errL l).2 = 0 then tellF ⟨(flatT l).toArray⟩ l else (⟨#[]⟩, (errL l).2)
set_option maxRecDepth 100000 in
set_option maxHeartbeats 4000000 in
theorem flat_err (n : Nat) (A : Option Addr) (c : Nat) (w : World) (i e : Int) (he : ¬ e = 0) (h : Calls Tryz.prog 67 #[.slice A n c] w fun r w' => r = .returned (.tuple #[.int .i64 i, .int .i64 e]) ∧ Below w.heap.size w w') :
    Calls Tryz.prog 37 #[.slice A n c] w fun r w' => r = .returned (.tuple #[.string ⟨#[]⟩, .int .i64 e]) ∧ Below w.heap.size w w' := by
  have HC := Aside0.mk h
  have he1 : (e == 0) = false := by rw [beq_eq_false_iff_ne]; exact he
  clear h
  go_enter Tryz.func37, Tryz.ntmps37
  go_wp2_with (go_at_call 67; (with_reducible refine HC.out.mono ?_); rintro e w1 ⟨rfl, hb⟩; have HB := Aside0.mk hb; clear hb)
  go_ret2
  exact ⟨rfl, HB.out⟩
theorem lensT_le {l : List Tok} (hz : ∀ t ∈ l, t.text.size ≤ 65536) (i : Nat) : lensT (l.take i) ≤ 65536 * l.length := by
  have h : ∀ m : List Tok, (∀ t ∈ m, t.text.size ≤ 65536) → lensT m ≤ 65536 * m.length := by
    intro m
    induction m with
    | nil => intro _; exact Nat.le_refl _
    | cons a m ih =>
      intro hm
      have h1 := ih (fun t ht => hm t (List.mem_cons_of_mem _ ht))
      have h2 := hm a (List.mem_cons_self ..)
      unfold lensT at h1 ⊢
      simp
      omega
  refine Nat.le_trans (h _ (fun t ht => hz t (List.mem_of_mem_take ht))) ?_
  exact Nat.mul_le_mul_left _ (by rw [List.length_take]; omega)
set_option maxRecDepth 100000 in
set_option maxHeartbeats 16000000 in
theorem flat_go (l : List Tok) (A : Option Addr) (c : Nat) (w : World) (hl : l.length ≤ 1000000) (hz : ∀ t ∈ l, t.text.size ≤ 65536) (hw : ∀ t ∈ l, WfT t) (hT : SrcC A l w) (i9 : Int)
    (h : Calls Tryz.prog 67 #[.slice A l.length c] w fun r w' => r = .returned (.tuple #[.int .i64 i9, .int .i64 0]) ∧ Below w.heap.size w w') :
    Calls Tryz.prog 37 #[.slice A l.length c] w fun r w' => r = .returned (.tuple #[.string (tellF ⟨(flatT l).toArray⟩ l).1, .int .i64 (tellF ⟨(flatT l).toArray⟩ l).2]) ∧ Below w.heap.size w w' := by
  obtain ⟨i0, hi, hz0, hz1, hz2⟩ := info_parts info9
  have HI := Aside0.mk hi; clear hi
  have HZ0 := Aside0.mk hz0; clear hz0
  have HZ1 := Aside0.mk hz1; clear hz1
  have HZ2 := Aside0.mk hz2; clear hz2
  have HC := Aside0.mk h
  have HS := Aside0.mk hT
  have HZ := Aside0.mk hz
  have HTOLD := Aside0.mk (fun (b : Nat) (v : Value) (W : World) (hb : Below w.heap.size w W) (hr : RowBox w b 28 9 1 l.length ((l.map Tok.text).map Value.string) v W) (n : Int) (hn : n = ((⟨(flatT l).toArray⟩ : ByteArray).size : Int)) =>
    told70_any ⟨(flatT l).toArray⟩ l A c b W hl hw (hT.below hb) n hn (fun hs => flat70_any l w b v W hl (by rw [flat_size] at hs; exact hs) hr))
  have HLEN := Aside0.mk (show (⟨(flatT l).toArray⟩ : ByteArray).size = (l.length - 1) + lensT l by rw [flat_size, flatT_len])
  obtain ⟨n, hn⟩ : ∃ n, l.length = n := ⟨_, rfl⟩
  rw [hn] at hl HC HTOLD HLEN ⊢
  have HN := Aside0.mk hn
  clear h hT hz hw hn
  obtain ⟨m, hm⟩ : ∃ m : Nat, m = n - 1 := ⟨_, rfl⟩
  have hmx : max ((n : Int) - 1) 0 = (m : Int) := by omega
  rw [← hm] at HLEN
  generalize tellF ⟨(flatT l).toArray⟩ l = R at HTOLD ⊢
  go_enter Tryz.func37, Tryz.ntmps37
  go_wp2_with (go_at_call 67; (with_reducible refine HC.out.mono ?_); rintro e w1 ⟨rfl, hb⟩; have HB := Aside0.mk hb; clear hb)
  have HM0 := Aside0.mk (RowBox.start 28 9 1 HB.out)
  have hb1 := HB.out.size
  generalize hbz : w1.heap.size = b at HM0
  have HBZ := Aside0.mk hbz
  generalize w1.alloc (.cells #[.slice none 0 0] 28) = W1 at HM0 ⊢
  clear hbz
  go_wp2
  go_loopg [24, 6] n (fun f t24 t6 wr => ∃ (i : Nat) (v : Value) (sz : Int), t24 = .int .i64 (i : Int) ∧ t6 = .int .i64 sz ∧ sz = (((n - 1) + lensT (l.take i) : Nat) : Int) ∧ i + f = n ∧ Aside0 (RowBox w b 28 9 1 i (((l.take i).map Tok.text).map Value.string) v wr))
  case atStart => exact ⟨0, _, _, rfl, rfl, by simp [lensT, hm], by omega, ⟨HM0.out⟩⟩
  case round =>
    obtain ⟨i, v, sz, rfl, rfl, hsz0, hif, HM⟩ := hrel
    obtain ⟨A', c', rfl⟩ := HM.out.form
    by_cases hi : i < n
    · obtain ⟨f, rfl⟩ : ∃ f, gk = f + 1 := ⟨gk - 1, by omega⟩
      have hlt : i < l.length := by rw [HN.out]; exact hi
      have hi2 : (i : Int) < (n : Int) := by omega
      have hti := List.getElem?_eq_getElem hlt
      have hxs : ((l.take (i + 1)).map Tok.text).map Value.string = ((l.take i).map Tok.text).map Value.string ++ [.string l[i].text] := by rw [List.take_succ_eq_append_getElem hlt, List.map_append, List.map_append]; rfl
      have hle := lensT_take hlt
      have hsz := HZ.out _ (List.getElem_mem hlt)
      have hlb := lensT_le HZ.out i
      rw [HN.out] at hlb
      obtain ⟨g, rfl, q0, q1, q2, q3, q4, q5⟩ := (HS.out.below HM.out.below) i _ hti
      generalize l[i] = t at hti hxs hle hsz q0 q1 q2 q3 q4 q5
      obtain ⟨tk, tn, tx, ta, tl, tc⟩ := t
      simp only at hxs hle hsz q0 q1 q2 q3 q4 q5
      have HXS := Aside0.mk hxs
      have HLE := Aside0.mk hle
      generalize lensT (l.take i) = s0 at hle HLE hlb hsz0
      generalize (((l.take i).map Tok.text).map Value.string) = vals at HM hxs HXS
      have hgw : g < wr.heap.size := World.block_lt_of_cell? _ _ q0
      have hwz := HM.out.size
      obtain ⟨cb, fb⟩ := ((HM.out.alloc (.cells #[.int .i64 tk, .int .i64 tn, .string tx, .int .i64 ta, .int .i64 tl, .int .i64 tc] 54)).alloc (.cells #[.string tx] 9)).cells
      obtain ⟨cb2, _⟩ := (HM.out.alloc (.cells #[.int .i64 tk, .int .i64 tn, .string tx, .int .i64 ta, .int .i64 tl, .int .i64 tc] 54)).cells
      have hw1 : IntKind.i64.wrap (sz + (tx.size : Int)) = sz + (tx.size : Int) := IntWalk.i64_in _ (by omega)
      have HSZ := Aside0.mk hsz0
      clear hsz0
      clear hti hxs hle hlt
      go_wp2_with (at_builtin; go_must (refine wpList_append_own_at _ rfl _ _ 28 rfl (b + 1) 9 i0 _ 1 16 Tryz.underlying28 HI.out HZ0.out HZ1.out HZ2.out rfl (by decide) (.slice A' i c') i vals rfl ((HM.out.alloc (.cells #[.int .i64 tk, .int .i64 tn, .string tx, .int .i64 ta, .int .i64 tl, .int .i64 tc] 54)).alloc (.cells #[.string tx] 9)).own ⟨wr.heap.size + 1, 0, none⟩ 1 1 [.string tx] rfl rfl (by intro j u h; have h9 := cells_new (wr.alloc (.cells #[.int .i64 tk, .int .i64 tn, .string tx, .int .i64 ta, .int .i64 tl, .int .i64 tc] 54)) #[.string tx] 9 j u h; rwa [show (wr.alloc (.cells #[.int .i64 tk, .int .i64 tn, .string tx, .int .i64 ta, .int .i64 tl, .int .i64 tc] 54)).heap.size = wr.heap.size + 1 by simp] at h9) (by simp [Value.oneCell']) (by unfold maxLen; omega) (by omega) ((HM.out.alloc (.cells #[.int .i64 tk, .int .i64 tn, .string tx, .int .i64 ta, .int .i64 tl, .int .i64 tc] 54)).alloc _).size ?_; intro v' w3 hown' hgrow _ hat; obtain ⟨g3, c3, rfl⟩ := ownsRow_succ hown'; have HM2 := Aside0.mk (((HM.out.alloc (.cells #[.int .i64 tk, .int .i64 tn, .string tx, .int .i64 ta, .int .i64 tl, .int .i64 tc] 54)).alloc (.cells #[.string tx] 9)).put hgrow hown'); have hbx := ((HM.out.alloc (.cells #[.int .i64 tk, .int .i64 tn, .string tx, .int .i64 ta, .int .i64 tl, .int .i64 tc] 54)).alloc (.cells #[.string tx] 9)).grownBox hgrow; have cb3 : w3.cell? ⟨b, 0, none⟩ = some (.slice A' i c') := cell_of hbx 0; have fb3 : w3.frozen? ⟨b, 0, none⟩ = false := free_of hbx 0; clear hown' hgrow hat hbx))
      go_roundg f
      case measure => omega
      case rel => exact ⟨i + 1, _, _, by go_num, rfl, by rw [HLE.out, HSZ.out]; omega, by omega, ⟨by rw [HXS.out]; exact HM2.out⟩⟩
    · obtain rfl : i = n := by omega
      have htk : l.take i = l := List.take_of_length_le (by rw [HN.out]; exact Nat.le_refl _)
      have hm2 := HM.out
      rw [htk] at hm2
      have HT := Aside0.mk (HTOLD.out b _ _ hm2.below hm2 sz (by rw [hsz0, HLEN.out, htk, hm]))
      have HBE := Aside0.mk hm2.below
      clear hm2 htk hsz0
      go_wp2_with (go_at_call 68; (with_reducible refine HT.out.mono ?_); rintro e w9 ⟨rfl, hb⟩; have HB9 := Aside0.mk (HBE.out.trans (hb.mono HBE.out.size)); clear hb)
      go_ret2
      exact ⟨rfl, HB9.out⟩
theorem flatR_any (l : List Tok) (A : Option Addr) (c : Nat) (w : World) (ht : Pow w) (hl : l.length ≤ 1000000) (hz : ∀ t ∈ l, t.text.size ≤ 65536) (hT : SrcT A c l w) :
    Calls Tryz.prog 37 #[.slice A l.length c] w fun r w' => r = .returned (.tuple #[.string (flatR l).1, .int .i64 (flatR l).2]) ∧ Below w.heap.size w w' := by
  have h9 := listError_any l A c w ht hl hz (by rcases hT with ⟨_, _, h⟩ | h; exact .inl h; exact .inr h)
  unfold flatR
  by_cases h : (errL l).2 = 0
  · rw [if_pos h]
    obtain ⟨hg, _⟩ := goodL_of hz h
    rw [h] at h9
    exact flat_go l A c w hl hz (fun t ht => goodL_wf hg t ht) hT.srcC _ h9
  · rw [if_neg h]
    exact flat_err _ A c w _ _ h h9
end Go.Proofs.YtfnhjdehlikbaaaGreatDoor.Lx
namespace Go.Proofs.YtfnhjdehlikbaaaGreatDoor.Lx
open Go.RowKit Go.Proofs.YtfnhjdehlikbaaaGreatDoorW.PrintWords
theorem info108 : (Tryz.prog.info? 108).map (fun i => (i.zero, i.size, i.bytes)) = some (some (.agg #[.int .i64 0, .int .i64 0]), 2, 16) := by kernel_rfl
def gapA (l : List Tok) (i : Nat) : Int := (l[i]?.getD tokZ).line - (prevT l i).line
def gapB (l : List Tok) (i : Nat) : Int := if gapA l i = 0 then (l[i]?.getD tokZ).col - ((prevT l i).col + (prevT l i).text.size) else (l[i]?.getD tokZ).col
def pieceS (l : List Tok) (i : Nat) : List UInt8 := List.replicate (gapA l i).toNat 10 ++ List.replicate (gapB l i).toNat 32 ++ (l[i]?.getD tokZ).text.data.toList
def setS (l : List Tok) : Nat → List UInt8
  | 0 => []
  | n + 1 => setS l n ++ pieceS l n
theorem setS_mono (l : List Tok) : ∀ {i n : Nat}, i ≤ n → (setS l i).length ≤ (setS l n).length := by
  intro i n h
  induction n with
  | zero => rw [Nat.le_zero.1 h]; exact Nat.le_refl _
  | succ n ih =>
    by_cases hi : i = n + 1
    · rw [hi]; exact Nat.le_refl _
    · rw [setS, List.length_append]
      have := ih (by omega)
      omega
theorem gaps_good {l : List Tok} (hg : GoodL l) {i : Nat} (hi : i < l.length) : 0 ≤ gapA l i ∧ 0 ≤ gapB l i ∧ gapA l i ≤ 65536 ∧ gapB l i ≤ 65536 := by
  have g := hg i l[i] (List.getElem?_eq_getElem hi)
  have hp : (if i = 0 then tokZ else l[i - 1]?.getD tokZ) = prevT l i := rfl
  rw [hp] at g
  obtain ⟨q1, q2, q3, q4, q5⟩ := prevT_le hg (show i ≤ l.length by omega)
  have hl0 : 0 ≤ (prevT l i).line := by
    unfold prevT
    split
    · exact Int.le_refl _
    · have hlt : i - 1 < l.length := by omega
      rw [List.getElem?_eq_getElem hlt]
      exact (hg (i - 1) _ (List.getElem?_eq_getElem hlt)).l0
  have g1 := g.line; have g2 := g.same; have g3 := g.l1; have g4 := g.c0; have g5 := g.c1
  unfold gapB gapA
  rw [List.getElem?_eq_getElem hi, Option.getD_some]
  refine ⟨by omega, ?_, by omega, ?_⟩
  · split
    · have := g2 (by omega); omega
    · omega
  · split
    · omega
    · omega
theorem pieceS_len {l : List Tok} (hg : GoodL l) {i : Nat} (hi : i < l.length) : ((pieceS l i).length : Int) = gapA l i + gapB l i + (l[i].text.size : Int) := by
  obtain ⟨h1, h2, _⟩ := gaps_good hg hi
  unfold pieceS
  rw [List.getElem?_eq_getElem hi, Option.getD_some]
  have := len_data l[i].text
  simp only [List.length_append, List.length_replicate]
  omega
theorem prevT_succ {l : List Tok} {i : Nat} (hi : i < l.length) : prevT l (i + 1) = l[i] := by simp [prevT, hi]
theorem setS_size (l : List Tok) (n : Nat) : (⟨(setS l n).toArray⟩ : ByteArray).size = (setS l n).length := by show (setS l n).toArray.size = _; simp
theorem setS_le {l : List Tok} (hg : GoodL l) {i : Nat} (hi : i ≤ l.length) : (setS l i).length ≤ 196608 * i := by
  induction i with
  | zero => exact Nat.le_refl _
  | succ i ih =>
    have h1 := ih (by omega)
    have h2 := pieceS_len hg (show i < l.length by omega)
    obtain ⟨_, _, h3, h4⟩ := gaps_good hg (show i < l.length by omega)
    have h5 := (hg i _ (List.getElem?_eq_getElem (show i < l.length by omega))).sz
    rw [setS, List.length_append]
    omega
def gapsV (l : List Tok) : Nat → List Value
  | 0 => []
  | n + 1 => gapsV l n ++ [.int .i64 (gapA l n), .int .i64 (gapB l n)]
theorem gapsV_len (l : List Tok) : ∀ n, (gapsV l n).length = n * 2 := by
  intro n
  induction n with
  | zero => rfl
  | succ n ih => rw [gapsV, List.length_append, ih]; simp; omega
structure SetAt (w : World) (b : Nat) (A : Option Addr) (n c i : Nat) (vals : List Value) (hl hc : Int) (v : Value) (W : World) : Prop where
  box : W.heap[b]? = some (.cells #[v] 114)
  here : W.heap[b + 1]? = some (.cells #[.int .i64 hl, .int .i64 hc] 108)
  own : W.ownsRow (b + 2) 108 2 v i vals
  src : W.heap[w.heap.size]? = some (.cells #[.slice A n c] 34)
  below : Below w.heap.size w W
  lo : w.heap.size < b
  size : b + 2 ≤ W.heap.size
section
variable {w : World} {b : Nat} {A : Option Addr} {n c i i' : Nat} {vals vals' : List Value} {hl hc : Int} {v v' : Value} {W W' : World}
theorem SetAt.step (h : SetAt w b A n c i vals hl hc v W) (hb : Below W.heap.size W W') : SetAt w b A n c i vals hl hc v W' :=
  ⟨(hb.block _ (heap_lt h.box)).trans h.box, (hb.block _ (heap_lt h.here)).trans h.here, own_move h.own (fun j hj => hb.block j (own_lt h.own j hj)), (hb.block _ (heap_lt h.src)).trans h.src, h.below.trans (hb.mono h.below.size), h.lo, Nat.le_trans h.size hb.size⟩
theorem SetAt.alloc (h : SetAt w b A n c i vals hl hc v W) (o : Obj) : SetAt w b A n c i vals hl hc v (W.alloc o) := h.step ((Below.refl _ W).alloc (Nat.le_refl _) o)
theorem SetAt.grownBox (h : SetAt w b A n c i vals hl hc v W) (hG : W.grownBy W' v.ownBlock) : W'.heap[b]? = some (.cells #[v] 114) :=
  (hG.block b (heap_lt h.box) (fun e => by have := own_base h.own b e.symm; omega)).trans h.box
theorem SetAt.put (h : SetAt w b A n c i vals hl hc v W) (hG : W.grownBy W' v.ownBlock) (hO : W'.ownsRow (b + 2) 108 2 v' i' vals') : SetAt w b A n c i' vals' hl hc v' (W'.setCell ⟨b, 0, none⟩ v') := by
  have hlo := h.lo
  have ob := fun j hj => own_base h.own j hj
  refine ⟨heap_set (h.grownBox hG) 0 v', ?_, own_move hO (fun j hj => heap_set_other (fun e => by have := own_base hO j hj; simp at e; omega) _), ?_, ?_, h.lo, ?_⟩
  · exact (heap_set_other (by simp) _).trans ((hG.block _ (heap_lt h.here) (fun e => by have := ob _ e.symm; omega)).trans h.here)
  · exact (heap_set_other (by show w.heap.size ≠ b; omega) _).trans ((hG.block _ (heap_lt h.src) (fun e => by have := ob _ e.symm; omega)).trans h.src)
  · exact (h.below.grown hG h.below.size (fun j hj => by have := ob j hj; omega)).setCell (p := ⟨b, 0, none⟩) (by show w.heap.size ≤ b; omega) _
  · simp [World.setCell]; exact Nat.le_trans h.size hG.size
theorem SetAt.hereCells (h : SetAt w b A n c i vals hl hc v W) : W.cell? ⟨b + 1, 0, none⟩ = some (.int .i64 hl) ∧ W.cell? ⟨b + 1, 1, none⟩ = some (.int .i64 hc) ∧ W.frozen? ⟨b + 1, 0, none⟩ = false ∧ W.frozen? ⟨b + 1, 1, none⟩ = false :=
  ⟨cell_of h.here 0, cell_of h.here 1, free_of h.here 0, free_of h.here 1⟩
theorem SetAt.turn (h : SetAt w b A n c i vals hl hc v W) (x y : Int) : SetAt w b A n c i vals x y v ((W.setCell ⟨b + 1, 0, none⟩ (.int .i64 x)).setCell ⟨b + 1, 1, none⟩ (.int .i64 y)) := by
  have hlo := h.lo
  have h1 := heap_set (heap_set h.here 0 (.int .i64 x)) 1 (.int .i64 y)
  refine ⟨(heap_set_other (by simp) _).trans ((heap_set_other (by simp) _).trans h.box), h1, own_move h.own (fun j hj => (heap_set_other (fun e => by have := own_base h.own j hj; simp at e; omega) _).trans (heap_set_other (fun e => by have := own_base h.own j hj; simp at e; omega) _)), ?_, ?_, h.lo, ?_⟩
  · exact (heap_set_other (by show w.heap.size ≠ b + 1; omega) _).trans ((heap_set_other (by show w.heap.size ≠ b + 1; omega) _).trans h.src)
  · exact (h.below.setCell (p := ⟨b + 1, 0, none⟩) (by show w.heap.size ≤ b + 1; omega) _).setCell (p := ⟨b + 1, 1, none⟩) (by show w.heap.size ≤ b + 1; omega) _
  · simp [World.setCell]; exact h.size
theorem SetAt.form (h : SetAt w b A n c i vals hl hc v W) : ∃ A' c', v = .slice A' i c' := by
  rcases h.own.2 with ⟨h1, h2⟩ | ⟨g, cap, cur, h1, _⟩
  · exact ⟨none, 0, by rw [h2]; exact h1⟩
  · exact ⟨_, _, h1⟩
theorem SetAt.start {w1 : World} (h : Below w.heap.size w w1) (hs : w1.heap[w.heap.size]? = some (.cells #[.slice A n c] 34)) : SetAt w w1.heap.size A n c 0 [] 0 0 (.slice none 0 0) ((w1.alloc (.cells #[.slice none 0 0] 114)).alloc (.cells #[.int .i64 0, .int .i64 0] 108)) :=
  ⟨heap_alloc (heap_new w1 _) _, heap_new' _ _ _ (by simp), World.ownsRow_nil _ _ _ _, heap_alloc (heap_alloc hs _) _, (h.alloc h.size _).alloc (by have := h.size; simp; omega) _, heap_lt hs, by simp⟩
theorem setFar {tk tn : Int} {tx : ByteArray} {ta tl tc x y : Int} {o : Obj} (h : SetAt w b A n c i vals hl hc v W) (hG : (((W.alloc (.cells #[.int .i64 tk, .int .i64 tn, .string tx, .int .i64 ta, .int .i64 tl, .int .i64 tc] 54)).alloc (.cells #[.int .i64 x, .int .i64 y] 108)).alloc o).grownBy W' v.ownBlock) :
    (W'.setCell ⟨b, 0, none⟩ v').cell? ⟨W.heap.size, 0, none⟩ = some (.int .i64 tk) ∧ (W'.setCell ⟨b, 0, none⟩ v').cell? ⟨W.heap.size, 1, none⟩ = some (.int .i64 tn) ∧ (W'.setCell ⟨b, 0, none⟩ v').cell? ⟨W.heap.size, 2, none⟩ = some (.string tx) ∧ (W'.setCell ⟨b, 0, none⟩ v').cell? ⟨W.heap.size, 3, none⟩ = some (.int .i64 ta) ∧ (W'.setCell ⟨b, 0, none⟩ v').cell? ⟨W.heap.size, 4, none⟩ = some (.int .i64 tl) ∧ (W'.setCell ⟨b, 0, none⟩ v').cell? ⟨W.heap.size, 5, none⟩ = some (.int .i64 tc) ∧
    (W'.setCell ⟨b, 0, none⟩ v').cell? ⟨W.heap.size + 1, 0, none⟩ = some (.int .i64 x) ∧ (W'.setCell ⟨b, 0, none⟩ v').cell? ⟨W.heap.size + 1, 1, none⟩ = some (.int .i64 y) := by
  have hsz := h.size
  have hno : ∀ k, W.heap.size ≤ k → ¬ some k = v.ownBlock := fun k hk e => by have := own_lt h.own k e.symm; omega
  have h1 : (W'.setCell ⟨b, 0, none⟩ v').heap[W.heap.size]? = some (.cells #[.int .i64 tk, .int .i64 tn, .string tx, .int .i64 ta, .int .i64 tl, .int .i64 tc] 54) :=
    (heap_set_other (by show W.heap.size ≠ b; omega) _).trans ((hG.block _ (by simp; omega) (hno _ (Nat.le_refl _))).trans (heap_alloc (heap_alloc (heap_new W _) _) _))
  have h2 : (W'.setCell ⟨b, 0, none⟩ v').heap[W.heap.size + 1]? = some (.cells #[.int .i64 x, .int .i64 y] 108) :=
    (heap_set_other (by show W.heap.size + 1 ≠ b; omega) _).trans ((hG.block _ (by simp) (hno _ (by omega))).trans (heap_alloc (heap_new' _ _ _ (by simp)) _))
  exact ⟨cell_of h1 0, cell_of h1 1, cell_of h1 2, cell_of h1 3, cell_of h1 4, cell_of h1 5, cell_of h2 0, cell_of h2 1⟩
end
set_option maxRecDepth 100000 in
set_option maxHeartbeats 4000000 in
theorem set_err (n : Nat) (A : Option Addr) (c : Nat) (w : World) (i e : Int) (he : ¬ e = 0) (h : ∀ W, Below w.heap.size w W → Calls Tryz.prog 67 #[.slice A n c] W fun r w' => r = .returned (.tuple #[.int .i64 i, .int .i64 e]) ∧ Below W.heap.size W w') :
    Calls Tryz.prog 36 #[.slice A n c] w fun r w' => r = .returned (.tuple #[.string ⟨#[]⟩, .int .i64 e]) ∧ Below w.heap.size w w' := by
  have HB0 : Aside0 (Below w.heap.size w (w.alloc (.cells #[.slice A n c] 34))) := ⟨(Below.refl _ w).alloc (Nat.le_refl _) _⟩
  have HC := Aside0.mk (h _ HB0.out)
  have he1 : (e == 0) = false := by rw [beq_eq_false_iff_ne]; exact he
  clear h
  go_enter Tryz.func36, Tryz.ntmps36
  go_wp2_with (go_at_call 67; (with_reducible refine HC.out.mono ?_); rintro e w1 ⟨rfl, hb⟩; have HB := Aside0.mk (HB0.out.trans (hb.mono HB0.out.size)); clear hb)
  go_ret2
  exact ⟨rfl, HB.out⟩
set_option maxRecDepth 100000 in
set_option maxHeartbeats 16000000 in
theorem set_go (l : List Tok) (A : Option Addr) (c : Nat) (w : World) (hl : l.length ≤ 4000) (hg : GoodL l) (hT : SrcC A l w) (i9 : Int)
    (h69 : ∀ (b : Nat) (hl hc : Int) (v : Value) (W : World), SetAt w b A l.length c l.length (gapsV l l.length) hl hc v W → (setS l l.length).length ≤ 65536 → Calls Tryz.prog 69 #[.pointer (some ⟨w.heap.size, 0, none⟩), .pointer (some ⟨b, 0, none⟩)] W fun e w' => e = .returned (.string ⟨(setS l l.length).toArray⟩) ∧ Below W.heap.size W w')
    (h : ∀ W, Below w.heap.size w W → Calls Tryz.prog 67 #[.slice A l.length c] W fun r w' => r = .returned (.tuple #[.int .i64 i9, .int .i64 0]) ∧ Below W.heap.size W w') :
    Calls Tryz.prog 36 #[.slice A l.length c] w fun r w' => r = .returned (.tuple #[.string (tellF ⟨(setS l l.length).toArray⟩ l).1, .int .i64 (tellF ⟨(setS l l.length).toArray⟩ l).2]) ∧ Below w.heap.size w w' := by
  obtain ⟨i0, hi, hz0, hz1, hz2⟩ := info_parts info108
  have HI := Aside0.mk hi; clear hi
  have HZ0 := Aside0.mk hz0; clear hz0
  have HZ1 := Aside0.mk hz1; clear hz1
  have HZ2 := Aside0.mk hz2; clear hz2
  have HS := Aside0.mk hT
  have HG := Aside0.mk hg
  have HTOLD := Aside0.mk (fun (b : Nat) (hl1 hc1 : Int) (v : Value) (W : World) (hb : Below w.heap.size w W) (hr : SetAt w b A l.length c l.length (gapsV l l.length) hl1 hc1 v W) (n : Int) (hn : n = ((setS l l.length).length : Int)) =>
    told69_any ⟨(setS l l.length).toArray⟩ l A c w.heap.size b W (by omega) (fun t ht => goodL_wf hg t ht) (hT.below hb) n (by rw [hn, setS_size]) (fun hs => h69 b hl1 hc1 v W hr (by rw [setS_size] at hs; exact hs)))
  clear h69
  obtain ⟨n, hn⟩ : ∃ n, l.length = n := ⟨_, rfl⟩
  rw [hn] at hl h HTOLD ⊢
  have HN := Aside0.mk hn
  have HB0 : Aside0 (Below w.heap.size w (w.alloc (.cells #[.slice A n c] 34))) := ⟨(Below.refl _ w).alloc (Nat.le_refl _) _⟩
  have HC := Aside0.mk (h _ HB0.out)
  clear h hT hn
  generalize tellF ⟨(setS l n).toArray⟩ l = R at HTOLD ⊢
  go_enter Tryz.func36, Tryz.ntmps36
  go_wp2_with (go_at_call 67; (with_reducible refine HC.out.mono ?_); rintro e w1 ⟨rfl, hb⟩; have HB := Aside0.mk (HB0.out.trans (hb.mono HB0.out.size)); have hbx : w1.heap[w.heap.size]? = some (.cells #[.slice A n c] 34) := (hb.block _ (by simp)).trans (heap_new w _); have cbx : w1.cell? ⟨w.heap.size, 0, none⟩ = some (.slice A n c) := cell_of hbx 0; have HBX := Aside0.mk hbx; have hlt1 := heap_lt hbx; clear hb hbx)
  have HM0 := Aside0.mk (SetAt.start HB.out HBX.out)
  generalize hbz : w1.heap.size = b at HM0 hlt1 ⊢
  generalize ((w1.alloc (.cells #[.slice none 0 0] 114)).alloc (.cells #[.int .i64 0, .int .i64 0] 108)) = W1 at HM0 ⊢
  clear hbz cbx
  go_loopg [23, 8] n (fun f t23 t8 wr => ∃ (i : Nat) (v : Value) (sz hl hc : Int), t23 = .int .i64 (i : Int) ∧ t8 = .int .i64 sz ∧ sz = ((setS l i).length : Int) ∧ hl = (prevT l i).line ∧ hc = (prevT l i).col + (prevT l i).text.size ∧ i + f = n ∧ Aside0 (SetAt w b A n c i (gapsV l i) hl hc v wr))
  case atStart => exact ⟨0, _, _, _, _, rfl, rfl, rfl, rfl, rfl, by omega, ⟨HM0.out⟩⟩
  case round =>
    obtain ⟨i, v, sz, hl, hc, rfl, rfl, hsz, hhl, hhc, hif, HM⟩ := hrel
    obtain ⟨A', c', rfl⟩ := HM.out.form
    by_cases hi : i < n
    · obtain ⟨f, rfl⟩ : ∃ f, gk = f + 1 := ⟨gk - 1, by omega⟩
      have hlt : i < l.length := by rw [HN.out]; exact hi
      have hi2 : (i : Int) < (n : Int) := by omega
      have hti := List.getElem?_eq_getElem hlt
      obtain ⟨p1, p2, p3, p4⟩ := gaps_good HG.out hlt
      have hpl := pieceS_len HG.out hlt
      have hps := prevT_succ hlt
      have hga : gapA l i = l[i].line - hl := by unfold gapA; rw [hti, hhl]; rfl
      have hgb : gapB l i = if l[i].line - hl = 0 then l[i].col - hc else l[i].col := by unfold gapB; rw [hga, hti, hhc]; rfl
      have hgd := HG.out i _ hti
      have hgc : l[i].text.size ≤ 65536 ∧ 0 ≤ l[i].col ∧ l[i].col ≤ 65536 ∧ 0 ≤ l[i].line ∧ l[i].line ≤ 65536 := ⟨hgd.sz, hgd.c0, hgd.c1, hgd.l0, hgd.l1⟩
      have hss : (setS l (i + 1)).length = (setS l i).length + (pieceS l i).length := by rw [setS, List.length_append]
      have hsb := setS_le HG.out (show i ≤ l.length by omega)
      obtain ⟨g, rfl, q0, q1, q2, q3, q4, q5⟩ := (HS.out.below HM.out.below) i _ hti
      generalize l[i] = t at hti hpl hps hga hgb hgc q0 q1 q2 q3 q4 q5
      obtain ⟨tk, tn, tx, ta, tl, tc⟩ := t
      simp only at hpl hps hga hgb hgc q0 q1 q2 q3 q4 q5
      obtain ⟨c0, c1, c2, c3, c4⟩ := hgc
      have hgw : g < wr.heap.size := World.block_lt_of_cell? _ _ q0
      have hwz := HM.out.size
      have hb1 : b + 1 < wr.heap.size := by omega
      have hb0 : b < wr.heap.size := by omega
      have cb : wr.cell? ⟨b, 0, none⟩ = some (.slice A' i c') := cell_of HM.out.box 0
      obtain ⟨x0, x1, xf0, xf1⟩ := HM.out.hereCells
      have hrow : (n : Int) ≤ 4000 := by omega
      have hgv : gapsV l (i + 1) = gapsV l i ++ [.int .i64 (gapA l i), .int .i64 (gapB l i)] := rfl
      have hw0 : IntKind.i64.wrap (tl - hl) = tl - hl := IntWalk.i64_in _ (by omega)
      have hw5 : IntKind.i64.wrap (tc + (tx.size : Int)) = tc + (tx.size : Int) := IntWalk.i64_in _ (by omega)
      by_cases hz : tl - hl = 0
      · rw [if_pos hz] at hgb
        have hle0 : tl = hl := by omega
        have hw1 : IntKind.i64.wrap (tc - hc) = tc - hc := IntWalk.i64_in _ (by omega)
        have hw2 : IntKind.i64.wrap (0 + (tc - hc)) = tc - hc := by rw [Int.zero_add]; exact hw1
        have hw3 : IntKind.i64.wrap ((tc - hc) + (tx.size : Int)) = (tc - hc) + (tx.size : Int) := IntWalk.i64_in _ (by omega)
        have hw4 : IntKind.i64.wrap (sz + ((tc - hc) + (tx.size : Int))) = sz + ((tc - hc) + (tx.size : Int)) := IntWalk.i64_in _ (by omega)
        have HREL := Aside0.mk (show sz + ((tc - hc) + (tx.size : Int)) = ((setS l (i + 1)).length : Int) ∧ tl = (prevT l (i + 1)).line ∧ tc + (tx.size : Int) = (prevT l (i + 1)).col + (prevT l (i + 1)).text.size ∧ gapsV l (i + 1) = gapsV l i ++ [.int .i64 0, .int .i64 (tc - hc)] from ⟨by omega, by rw [hps], by rw [hps], by rw [hgv, hga, hgb, hz]⟩)
        subst hle0
        clear hz hga hgb hgv hpl hps hss hsb hsz hhl hhc hti hlt hgd p1 p2 p3 p4
        go_wp2_with (at_builtin; go_must (refine wpList_append_own_at _ rfl _ _ 114 rfl (b + 2) 108 i0 _ 2 16 Tryz.underlying114 HI.out HZ0.out HZ1.out HZ2.out rfl (by decide) (.slice A' i c') i (gapsV l i) rfl (((HM.out.alloc (.cells #[.int .i64 tk, .int .i64 tn, .string tx, .int .i64 ta, .int .i64 tl, .int .i64 tc] 54)).alloc (.cells #[.int .i64 0, .int .i64 (tc - hc)] 108)).alloc (.cells #[.int .i64 0, .int .i64 (tc - hc)] 108)).own ⟨wr.heap.size + 1 + 1, 0, none⟩ 1 1 [.int .i64 0, .int .i64 (tc - hc)] rfl rfl (by intro j u h; have h9 := cells_new ((wr.alloc (.cells #[.int .i64 tk, .int .i64 tn, .string tx, .int .i64 ta, .int .i64 tl, .int .i64 tc] 54)).alloc (.cells #[.int .i64 0, .int .i64 (tc - hc)] 108)) #[.int .i64 0, .int .i64 (tc - hc)] 108 j u h; rwa [show ((wr.alloc (.cells #[.int .i64 tk, .int .i64 tn, .string tx, .int .i64 ta, .int .i64 tl, .int .i64 tc] 54)).alloc (.cells #[.int .i64 0, .int .i64 (tc - hc)] 108)).heap.size = wr.heap.size + 1 + 1 by simp] at h9) (by simp [Value.oneCell']) (by unfold maxLen; omega) (by omega) (((HM.out.alloc (.cells #[.int .i64 tk, .int .i64 tn, .string tx, .int .i64 ta, .int .i64 tl, .int .i64 tc] 54)).alloc (.cells #[.int .i64 0, .int .i64 (tc - hc)] 108)).alloc _).size ?_; intro v' w3 hown' hgrow _ hat; obtain ⟨g3, c3, rfl⟩ := ownsRow_succ hown'; have HM2 := Aside0.mk ((((HM.out.alloc (.cells #[.int .i64 tk, .int .i64 tn, .string tx, .int .i64 ta, .int .i64 tl, .int .i64 tc] 54)).alloc (.cells #[.int .i64 0, .int .i64 (tc - hc)] 108)).alloc (.cells #[.int .i64 0, .int .i64 (tc - hc)] 108)).put hgrow hown'); have hbx := (((HM.out.alloc (.cells #[.int .i64 tk, .int .i64 tn, .string tx, .int .i64 ta, .int .i64 tl, .int .i64 tc] 54)).alloc (.cells #[.int .i64 0, .int .i64 (tc - hc)] 108)).alloc (.cells #[.int .i64 0, .int .i64 (tc - hc)] 108)).grownBox hgrow; have cb3 : w3.cell? ⟨b, 0, none⟩ = some (.slice A' i c') := cell_of hbx 0; have fb3 : w3.frozen? ⟨b, 0, none⟩ = false := free_of hbx 0; obtain ⟨y0, y1, y2, y3, y4, y5, y6, y7⟩ := setFar HM.out (v' := .slice (some ⟨g3, 0, none⟩) (i + 1) c3) hgrow; obtain ⟨z0, z1, f0, f1⟩ := HM2.out.hereCells; clear hown' hgrow hat hbx))
        go_roundg f
        case measure => omega
        case rel => exact ⟨i + 1, _, _, _, _, by go_num, rfl, HREL.out.1, HREL.out.2.1, HREL.out.2.2.1, by omega, ⟨by rw [HREL.out.2.2.2]; exact HM2.out.turn _ _⟩⟩
      · rw [if_neg hz] at hgb
        have hz2 : (tl - hl == 0) = false := by rw [beq_eq_false_iff_ne]; exact hz
        have hw2 : IntKind.i64.wrap ((tl - hl) + tc) = (tl - hl) + tc := IntWalk.i64_in _ (by omega)
        have hw3 : IntKind.i64.wrap ((tl - hl) + tc + (tx.size : Int)) = (tl - hl) + tc + (tx.size : Int) := IntWalk.i64_in _ (by omega)
        have hw4 : IntKind.i64.wrap (sz + ((tl - hl) + tc + (tx.size : Int))) = sz + ((tl - hl) + tc + (tx.size : Int)) := IntWalk.i64_in _ (by omega)
        have HREL := Aside0.mk (show sz + ((tl - hl) + tc + (tx.size : Int)) = ((setS l (i + 1)).length : Int) ∧ tl = (prevT l (i + 1)).line ∧ tc + (tx.size : Int) = (prevT l (i + 1)).col + (prevT l (i + 1)).text.size ∧ gapsV l (i + 1) = gapsV l i ++ [.int .i64 (tl - hl), .int .i64 tc] from ⟨by omega, by rw [hps], by rw [hps], by rw [hgv, hga, hgb]⟩)
        clear hga hgb hgv hpl hps hss hsb hsz hhl hhc hti hlt hgd p1 p2 p3 p4
        go_wp2_with (at_builtin; go_must (refine wpList_append_own_at _ rfl _ _ 114 rfl (b + 2) 108 i0 _ 2 16 Tryz.underlying114 HI.out HZ0.out HZ1.out HZ2.out rfl (by decide) (.slice A' i c') i (gapsV l i) rfl (((HM.out.alloc (.cells #[.int .i64 tk, .int .i64 tn, .string tx, .int .i64 ta, .int .i64 tl, .int .i64 tc] 54)).alloc (.cells #[.int .i64 (tl - hl), .int .i64 tc] 108)).alloc (.cells #[.int .i64 (tl - hl), .int .i64 tc] 108)).own ⟨wr.heap.size + 1 + 1, 0, none⟩ 1 1 [.int .i64 (tl - hl), .int .i64 tc] rfl rfl (by intro j u h; have h9 := cells_new ((wr.alloc (.cells #[.int .i64 tk, .int .i64 tn, .string tx, .int .i64 ta, .int .i64 tl, .int .i64 tc] 54)).alloc (.cells #[.int .i64 (tl - hl), .int .i64 tc] 108)) #[.int .i64 (tl - hl), .int .i64 tc] 108 j u h; rwa [show ((wr.alloc (.cells #[.int .i64 tk, .int .i64 tn, .string tx, .int .i64 ta, .int .i64 tl, .int .i64 tc] 54)).alloc (.cells #[.int .i64 (tl - hl), .int .i64 tc] 108)).heap.size = wr.heap.size + 1 + 1 by simp] at h9) (by simp [Value.oneCell']) (by unfold maxLen; omega) (by omega) (((HM.out.alloc (.cells #[.int .i64 tk, .int .i64 tn, .string tx, .int .i64 ta, .int .i64 tl, .int .i64 tc] 54)).alloc (.cells #[.int .i64 (tl - hl), .int .i64 tc] 108)).alloc _).size ?_; intro v' w3 hown' hgrow _ hat; obtain ⟨g3, c3, rfl⟩ := ownsRow_succ hown'; have HM2 := Aside0.mk ((((HM.out.alloc (.cells #[.int .i64 tk, .int .i64 tn, .string tx, .int .i64 ta, .int .i64 tl, .int .i64 tc] 54)).alloc (.cells #[.int .i64 (tl - hl), .int .i64 tc] 108)).alloc (.cells #[.int .i64 (tl - hl), .int .i64 tc] 108)).put hgrow hown'); have hbx := (((HM.out.alloc (.cells #[.int .i64 tk, .int .i64 tn, .string tx, .int .i64 ta, .int .i64 tl, .int .i64 tc] 54)).alloc (.cells #[.int .i64 (tl - hl), .int .i64 tc] 108)).alloc (.cells #[.int .i64 (tl - hl), .int .i64 tc] 108)).grownBox hgrow; have cb3 : w3.cell? ⟨b, 0, none⟩ = some (.slice A' i c') := cell_of hbx 0; have fb3 : w3.frozen? ⟨b, 0, none⟩ = false := free_of hbx 0; obtain ⟨y0, y1, y2, y3, y4, y5, y6, y7⟩ := setFar HM.out (v' := .slice (some ⟨g3, 0, none⟩) (i + 1) c3) hgrow; obtain ⟨z0, z1, f0, f1⟩ := HM2.out.hereCells; clear hown' hgrow hat hbx))
        go_roundg f
        case measure => omega
        case rel => exact ⟨i + 1, _, _, _, _, by go_num, rfl, HREL.out.1, HREL.out.2.1, HREL.out.2.2.1, by omega, ⟨by rw [HREL.out.2.2.2]; exact HM2.out.turn _ _⟩⟩
    · obtain rfl : i = n := by omega
      have HT := Aside0.mk (HTOLD.out b _ _ _ _ HM.out.below HM.out sz hsz)
      have HBE := Aside0.mk HM.out.below
      have cbs : wr.cell? ⟨w.heap.size, 0, none⟩ = some (.slice A i c) := cell_of HM.out.src 0
      clear hsz
      go_wp2_with (go_at_call 68; (with_reducible refine HT.out.mono ?_); rintro e w9 ⟨rfl, hb⟩; have HB9 := Aside0.mk (HBE.out.trans (hb.mono HBE.out.size)); clear hb)
      go_ret2
      exact ⟨rfl, HB9.out⟩
end Go.Proofs.YtfnhjdehlikbaaaGreatDoor.Lx
namespace Go.Proofs.YtfnhjdehlikbaaaGreatDoor.Lx
open Go.RowKit Go.Proofs.YtfnhjdehlikbaaaGreatDoorW.PrintWords
theorem joinTail_snoc (sep : List UInt8) (x : List UInt8) : ∀ r, Lib.joinTail sep (r ++ [x]) = Lib.joinTail sep r ++ (sep ++ x) := by
  intro r
  induction r with
  | nil => simp [Lib.joinTail]
  | cons a r ih => simp [Lib.joinTail, ih]
theorem ba_eq2 {x y : ByteArray} (h : x.toList = y.toList) : x = y := by
  rw [ByteArray.toList_eq, ByteArray.toList_eq] at h
  exact ByteArray.ext (Array.toList_inj.1 h)
set_option maxRecDepth 100000 in
set_option maxHeartbeats 16000000 in
theorem refSame_any (s : ByteArray) (l : List Tok) (A : Option Addr) (c : Nat) (w : World) (hs : s.size ≤ 100000000) (hl : l.length ≤ 1000000) (hT : SrcC A l w) :
    Calls Tryz.prog 114 #[.string s, .slice A l.length c] w fun e w' => e = .returned (.tuple #[.string (tellF s l).1, .int .i64 (tellF s l).2]) ∧ Below w.heap.size w w' := by
  by_cases hz : 65536 < s.size
  · rw [tellF_long hz]
    have hz2 : (65536 : Int) < (s.size : Int) := by omega
    go_enter Tryz.func114, Tryz.ntmps114
    go_wp2
    go_ret2
    exact ⟨rfl, Below.refl _ _⟩
  · have hz2 : (s.size : Int) ≤ 65536 := by omega
    have HS := Aside0.mk hT
    have HRW := Aside0.mk (fun W => refRaw_any s W (by omega))
    have hg := tellF_good (l := l) hz
    have hb := tellF_bad (l := l) hz
    have hmlen := (rawOk_all s).2
    generalize tellF s l = R at hg hb ⊢
    generalize rawF s = Q at HRW hg hb hmlen
    obtain ⟨m, at1, e1⟩ := Q
    simp only at HRW hg hb hmlen
    obtain ⟨q, hq⟩ : ∃ q, l.length = q := ⟨_, rfl⟩
    obtain ⟨n, hn⟩ : ∃ n, m.length = n := ⟨_, rfl⟩
    rw [hq] at hl ⊢
    rw [hn] at HRW hmlen
    have HQ := Aside0.mk hq
    have HN := Aside0.mk hn
    have HG := Aside0.mk hg
    have HBD := Aside0.mk hb
    clear hT hg hb hq hn hz
    have A40 : True := trivial
    by_cases he : e1 = 0
    · subst he
      by_cases hlen : n = q
      · subst hlen
        go_enter Tryz.func114, Tryz.ntmps114
        go_wp2_with (go_at_call 40; (with_reducible refine (HRW.out _).mono ?_); rintro e w1 ⟨A1, c1, rfl, hsr, hcc, hb⟩; have HB1 := Aside0.mk hb; have HS1 := Aside0.mk hsr; clear hsr hb)
        go_loopg [9] n (fun f t9 wr => ∃ i : Nat, t9 = .int .i64 (i : Int) ∧ i + f = n ∧ Aside0 (Below w1.heap.size w1 wr ∧ ∀ (k : Nat) a b, k < i → m[k]? = some a → l[k]? = some b → a.kind = b.kind ∧ a.text = b.text))
        case atStart => exact ⟨0, rfl, by omega, ⟨Below.refl _ _, fun k a b hk => absurd hk (Nat.not_lt_zero k)⟩⟩
        case round =>
          obtain ⟨i, rfl, hif, hA⟩ := hrel
          have HB := Aside0.mk hA.out.1
          have HE := Aside0.mk hA.out.2
          clear hA
          by_cases hi : i < n
          · obtain ⟨f, rfl⟩ : ∃ f, gk = f + 1 := ⟨gk - 1, by omega⟩
            have hi2 : (i : Int) < (n : Int) := by omega
            have hl1 : i < m.length := by rw [HN.out]; exact hi
            have hl2 : i < l.length := by rw [HQ.out]; exact hi
            have hta := List.getElem?_eq_getElem hl1
            have htb := List.getElem?_eq_getElem hl2
            generalize m[i] = a at hta
            generalize l[i] = b at htb
            have HTA := Aside0.mk hta
            have HTB := Aside0.mk htb
            obtain ⟨g, rfl, x0, x1, x2, x3, x4, x5⟩ := (HS1.out.below HB.out) i _ hta
            obtain ⟨p, rfl, z0, z1, z2, z3, z4, z5⟩ := ((HS.out.below HB1.out).below HB.out) i _ htb
            obtain ⟨tk, tn, tx, ta, tl, tc⟩ := a
            obtain ⟨bk, bn, bx, ba, bl, bc⟩ := b
            simp only at x0 x1 x2 x3 x4 x5 z0 z1 z2 z3 z4 z5
            clear hta htb hl1 hl2
            by_cases h1 : tk = bk
            · subst h1
              have hkk : (tk != tk) = false := bne_self_eq_false _
              by_cases h2 : tx.toList = bx.toList
              · have hxe := ba_eq2 h2
                subst hxe
                have hxx : (tx.toList != tx.toList) = false := bne_self_eq_false _
                go_upto_region 9 with (fail)
                go_quiet (fail)
                go_wp2
                go_roundg f
                case measure => omega
                case rel =>
                  refine ⟨i + 1, by go_num, by omega, ⟨below_drewN HB.out _, fun k a b hk ha hb => ?_⟩⟩
                  by_cases hki : k = i
                  · subst hki
                    rw [HTA.out] at ha
                    rw [HTB.out] at hb
                    injection ha with ha
                    injection hb with hb
                    rw [← ha, ← hb]
                    exact ⟨rfl, rfl⟩
                  · exact HE.out k a b (by omega) ha hb
              · have hxx : (tx.toList != bx.toList) = true := by simpa using h2
                have hx2 : (tx.toList == bx.toList) = false := by rw [beq_eq_false_iff_ne]; exact h2
                have hx3 : decide (tx.toList = bx.toList) = false := decide_eq_false h2
                have hx4 : ¬ tx.toList = bx.toList := h2
                have HX := Aside0.mk h2
                clear h2
                go_upto_region 9 with (fail)
                go_quiet (fail)
                go_wp2
                go_ret2
                rw [HBD.out (fun h => HX.out (by have h9 := (h.2.2 i _ _ HTA.out HTB.out).2; simp only at h9; rw [h9]))]
                exact ⟨rfl, HB1.out.trans ((below_drewN HB.out _).mono HB1.out.size)⟩
            · have hkk : (tk != bk) = true := by simpa using h1
              have HX := Aside0.mk h1
              clear h1
              go_upto_region 9 with (fail)
              go_quiet (fail)
              go_wp2
              go_ret2
              rw [HBD.out (fun h => HX.out (h.2.2 i _ _ HTA.out HTB.out).1)]
              exact ⟨rfl, HB1.out.trans ((below_drewN HB.out _).mono HB1.out.size)⟩
          · obtain rfl : i = n := by omega
            go_wp2
            go_ret2
            rw [HG.out ⟨trivial, by rw [HN.out, HQ.out], fun k a b ha hb => HE.out k a b (by have := (List.getElem?_eq_some_iff.1 ha).1; rw [HN.out] at this; exact this) ha hb⟩]
            exact ⟨rfl, HB1.out.trans (HB.out.mono HB1.out.size)⟩
      · have hne : ((n : Int) != (q : Int)) = true := by simp; omega
        have HX := Aside0.mk hlen
        clear hlen
        go_enter Tryz.func114, Tryz.ntmps114
        go_wp2_with (go_at_call 40; (with_reducible refine (HRW.out _).mono ?_); rintro e w1 ⟨A1, c1, rfl, hsr, hcc, hb⟩; have HB1 := Aside0.mk hb; clear hsr hb)
        go_ret2
        rw [HBD.out (fun h => HX.out (by have := h.2.1; rw [HN.out, HQ.out] at this; exact this))]
        exact ⟨rfl, HB1.out⟩
    · have he2 : (e1 != 0) = true := by simpa using he
      have HX := Aside0.mk he
      clear he
      go_enter Tryz.func114, Tryz.ntmps114
      go_wp2_with (go_at_call 40; (with_reducible refine (HRW.out _).mono ?_); rintro e w1 ⟨A1, c1, rfl, hsr, hcc, hb⟩; have HB1 := Aside0.mk hb; clear hsr hb)
      go_ret2
      rw [HBD.out (fun h => HX.out h.1)]
      exact ⟨rfl, HB1.out⟩
set_option maxRecDepth 100000 in
set_option maxHeartbeats 4000000 in
theorem refFlat_err (n : Nat) (A : Option Addr) (c : Nat) (w : World) (i e : Int) (he : ¬ e = 0) (h : Calls Tryz.prog 108 #[.slice A n c] w fun r w' => r = .returned (.tuple #[.int .i64 i, .int .i64 e]) ∧ Below w.heap.size w w') :
    Calls Tryz.prog 77 #[.slice A n c] w fun r w' => r = .returned (.tuple #[.string ⟨#[]⟩, .int .i64 e]) ∧ Below w.heap.size w w' := by
  have HC := Aside0.mk h
  have he1 : (e == 0) = false := by rw [beq_eq_false_iff_ne]; exact he
  clear h
  go_enter Tryz.func77, Tryz.ntmps77
  go_wp2_with (go_at_call 108; (with_reducible refine HC.out.mono ?_); rintro e w1 ⟨rfl, hb⟩; have HB := Aside0.mk hb; clear hb)
  go_ret2
  exact ⟨rfl, HB.out⟩
theorem flatT_succ (l : List Tok) : ∀ (i : Nat) (h : i < l.length), flatT (l.take (i + 1)) = (if 0 < i then flatT (l.take i) ++ [32] else flatT (l.take i)) ++ l[i].text.data.toList := by
  intro i h
  have ht : l.take (i + 1) = l.take i ++ [l[i]] := List.take_succ_eq_append_getElem h
  unfold flatT
  rw [ht, List.map_append, List.map_append]
  cases i with
  | zero => simp [Lib.join_one, Lib.join_nil]
  | succ i =>
    obtain ⟨a, m, hm⟩ : ∃ a m, l.take (i + 1) = a :: m := by
      cases hc : l.take (i + 1) with
      | nil => have := congrArg List.length hc; rw [List.length_take, List.length_nil] at this; omega
      | cons a m => exact ⟨a, m, rfl⟩
    rw [hm]
    simp [Lib.join_cons, joinTail_snoc]
end Go.Proofs.YtfnhjdehlikbaaaGreatDoor.Lx
namespace Go.Proofs.YtfnhjdehlikbaaaGreatDoor.Lx
open Go.RowKit Go.Proofs.YtfnhjdehlikbaaaGreatDoorW.PrintWords
theorem data_app (x y : ByteArray) : (x ++ y).data.toList = x.data.toList ++ y.data.toList := by rw [ByteArray.data_append, Array.toList_append]
theorem ba_of {x : ByteArray} {l : List UInt8} (h : x.data.toList = l) : x = ⟨l.toArray⟩ := ByteArray.ext (by rw [← h])
theorem flatT_mono (l : List Tok) : ∀ {i n : Nat}, i ≤ n → n ≤ l.length → (flatT (l.take i)).length ≤ (flatT (l.take n)).length := by
  intro i n h hn
  induction n with
  | zero => rw [Nat.le_zero.1 h]; exact Nat.le_refl _
  | succ n ih =>
    by_cases hi : i = n + 1
    · rw [hi]; exact Nat.le_refl _
    · have h1 := ih (by omega) (by omega)
      rw [flatT_succ l n (by omega), List.length_append]
      split
      · rw [List.length_append]; omega
      · omega
set_option maxRecDepth 100000 in
set_option maxHeartbeats 16000000 in
theorem refFlat_go (l : List Tok) (A : Option Addr) (c : Nat) (w : World) (hl : l.length ≤ 1000000) (hz : ∀ t ∈ l, t.text.size ≤ 65536) (hT : SrcC A l w) (i9 : Int)
    (h : Calls Tryz.prog 108 #[.slice A l.length c] w fun r w' => r = .returned (.tuple #[.int .i64 i9, .int .i64 0]) ∧ Below w.heap.size w w') :
    Calls Tryz.prog 77 #[.slice A l.length c] w fun r w' => r = .returned (.tuple #[.string (tellF ⟨(flatT l).toArray⟩ l).1, .int .i64 (tellF ⟨(flatT l).toArray⟩ l).2]) ∧ Below w.heap.size w w' := by
  have HC := Aside0.mk h
  have HS := Aside0.mk hT
  have HZ := Aside0.mk hz
  have HSA := Aside0.mk (fun (s : ByteArray) (W : World) (hb : Below w.heap.size w W) (hs : s.size ≤ 100000000) => refSame_any s l A c W hs hl (hT.below hb))
  obtain ⟨n, hn⟩ : ∃ n, l.length = n := ⟨_, rfl⟩
  have HLG : Aside0 (∀ i, i ≤ n → 65536 < (flatT (l.take i)).length → tellF ⟨(flatT l).toArray⟩ l = (⟨#[]⟩, 11)) := ⟨fun i hi h => tellF_long (by
    rw [flat_size]
    have h9 := flatT_mono l hi (by omega)
    rw [List.take_of_length_le (Nat.le_of_eq hn)] at h9
    omega)⟩
  rw [hn] at hl HC HSA ⊢
  have HN := Aside0.mk hn
  have HR : Aside0 (∀ s : ByteArray, s.data.toList = flatT l → tellF s l = tellF ⟨(flatT l).toArray⟩ l) := ⟨fun s hs => by rw [ba_of hs]⟩
  clear h hT hz hn
  generalize tellF ⟨(flatT l).toArray⟩ l = R at HLG HR ⊢
  go_enter Tryz.func77, Tryz.ntmps77
  go_wp2_with (go_at_call 108; (with_reducible refine HC.out.mono ?_); rintro e w1 ⟨rfl, hb⟩; have HB := Aside0.mk hb; clear hb)
  go_loopg [7, 6] n (fun f t7 t6 wr => ∃ (i : Nat) (s : ByteArray), t7 = .int .i64 (i : Int) ∧ t6 = .string s ∧ i + f = n ∧ s.size ≤ 65536 ∧ wr = w1 ∧ Aside0 (s.data.toList = flatT (l.take i)))
  case atStart => exact ⟨0, ⟨#[]⟩, rfl, rfl, by omega, by show (0 : Nat) ≤ 65536; omega, rfl, ⟨rfl⟩⟩
  case round =>
    obtain ⟨i, s, rfl, rfl, hif, hss, rfl, HD⟩ := hrel
    by_cases hi : i < n
    · obtain ⟨f, rfl⟩ : ∃ f, gk = f + 1 := ⟨gk - 1, by omega⟩
      have hlt : i < l.length := by rw [HN.out]; exact hi
      have hi2 : (i : Int) < (n : Int) := by omega
      have hti := List.getElem?_eq_getElem hlt
      have hsz := HZ.out _ (List.getElem_mem hlt)
      have hft := flatT_succ l i hlt
      obtain ⟨g, rfl, q0, q1, q2, q3, q4, q5⟩ := (HS.out.below HB.out) i _ hti
      generalize l[i] = t at hft hsz q0 q1 q2 q3 q4 q5
      obtain ⟨tk, tn, tx, ta, tl, tc⟩ := t
      simp only at hft hsz q0 q1 q2 q3 q4 q5
      clear hti hlt
      by_cases h0 : i = 0
      · subst h0
        rw [if_neg (by omega)] at hft
        have HF := Aside0.mk hft
        have hca : s.size + tx.size ≤ 140737488355328 := by omega
        have hcb : ¬ 140737488355328 < s.size + tx.size := by omega
        by_cases hlong : 65536 < s.size + tx.size
        · have hl2 : (65536 : Int) < (s.size : Int) + (tx.size : Int) := by omega
          have HX := Aside0.mk (HLG.out 1 (by omega) (by rw [HF.out, List.length_append, ← HD.out, len_data, len_data]; exact hlong))
          clear hft hlong
          go_wp2
          go_ret2
          rw [HX.out]
          exact ⟨rfl, HB.out⟩
        · have hl2 : (s.size : Int) + (tx.size : Int) ≤ 65536 := by omega
          clear hft
          go_wp2
          go_roundg f
          case measure => omega
          case rel => exact ⟨1, _, by go_num, rfl, by omega, by rw [ByteArray.size_append]; omega, rfl, ⟨by rw [data_app, HD.out, HF.out]⟩⟩
      · rw [if_pos (by omega)] at hft
        have HF := Aside0.mk hft
        have hi0 : (0 : Int) < (i : Int) := by omega
        have h1 : (⟨#[32]⟩ : ByteArray).size = 1 := rfl
        have hca : s.size + 1 ≤ 140737488355328 := by omega
        have hcb : ¬ 140737488355328 < s.size + 1 := by omega
        have hcc : (s ++ ⟨#[32]⟩).size + tx.size ≤ 140737488355328 := by rw [ByteArray.size_append, h1]; omega
        have hcd : ¬ 140737488355328 < (s ++ ⟨#[32]⟩).size + tx.size := by omega
        by_cases hlong : 65536 < s.size + 1 + tx.size
        · have hl2 : (65536 : Int) < (s.size : Int) + 1 + (tx.size : Int) := by omega
          have HX := Aside0.mk (HLG.out (i + 1) (by omega) (by rw [HF.out, List.length_append, List.length_append, ← HD.out, len_data, len_data]; exact hlong))
          clear hft hlong h1
          go_wp2
          go_ret2
          rw [HX.out]
          exact ⟨rfl, HB.out⟩
        · have hl2 : (s.size : Int) + 1 + (tx.size : Int) ≤ 65536 := by omega
          clear hft
          have HL2 := Aside0.mk hl2
          have HH1 := Aside0.mk h1
          clear h1
          go_wp2
          go_roundg f
          case measure => omega
          case rel => exact ⟨i + 1, _, by go_num, rfl, by omega, by have := HL2.out; rw [ByteArray.size_append, ByteArray.size_append, HH1.out]; omega, rfl, ⟨by rw [data_app, data_app, HD.out, HF.out]⟩⟩
    · obtain rfl : i = n := by omega
      have hd := HD.out
      rw [List.take_of_length_le (Nat.le_of_eq HN.out)] at hd
      have HX := Aside0.mk (HSA.out s _ HB.out (by omega))
      have hrr := HR.out s hd
      rw [hrr] at HX
      clear hd hrr
      go_wp2_with (go_at_call 114; (with_reducible refine HX.out.mono ?_); rintro e w9 ⟨rfl, hb⟩; have HB9 := Aside0.mk (HB.out.trans (hb.mono HB.out.size)); clear hb)
      go_ret2
      exact ⟨rfl, HB9.out⟩
theorem refFlatR_any (l : List Tok) (A : Option Addr) (c : Nat) (w : World) (hl : l.length ≤ 1000000) (hz : ∀ t ∈ l, t.text.size ≤ 65536) (hT : SrcC A l w) :
    Calls Tryz.prog 77 #[.slice A l.length c] w fun r w' => r = .returned (.tuple #[.string (flatR l).1, .int .i64 (flatR l).2]) ∧ Below w.heap.size w w' := by
  have h9 := refRight_all l A c w hl hz hT
  unfold flatR
  by_cases h : (errL l).2 = 0
  · rw [if_pos h]
    rw [h] at h9
    exact refFlat_go l A c w hl hz hT _ h9
  · rw [if_neg h]
    exact refFlat_err _ A c w _ _ h h9
end Go.Proofs.YtfnhjdehlikbaaaGreatDoor.Lx
