import Derived.Test.YtfnhjdehlikbaaaGreatDoorMA
import Derived.Test.YtfnhjdehlikbaaaGreatDoorM8
import Derived.Test.YtfnhjdehlikbaaaGreatDoorM4
import Derived.Test.YtfnhjdehlikbaaaGreatDoorM5
import Derived.Test.YtfnhjdehlikbaaaGreatDoorM6
import Derived.Deep.Upon
set_option linter.unusedVariables false
set_option linter.unusedSimpArgs false
/- The plain law of LexBlocks: what Lay returns goes through the check of pairs; the tokens without those of blocks are the raw ones. -/
namespace Go.Proofs.YtfnhjdehlikbaaaGreatDoor.Lx
open Go.RowKit Go.Proofs.YtfnhjdehlikbaaaGreatDoorW.PrintWords

def wLt : ByteArray := ⟨#[60]⟩
def wWith : ByteArray := ⟨#[119, 105, 116, 104]⟩
def img (v : Lev) : ByteArray := if v.block = true then wLt else v.text
def closers3 : List ByteArray := [⟨#[41]⟩, ⟨#[125]⟩, ⟨#[105, 110]⟩]
def heads3 : List ByteArray := [⟨#[109, 97, 116, 99, 104]⟩, ⟨#[104, 97, 110, 100, 108, 101]⟩, ⟨#[97, 98, 105, 108, 105, 116, 121]⟩]
def opOf (x : ByteArray) : ByteArray := if x = ⟨#[41]⟩ then ⟨#[40]⟩ else if x = ⟨#[125]⟩ then ⟨#[123]⟩ else ⟨#[108, 101, 116]⟩
/-- What came is no 'with'. -/
def NoW (p : Option Tok) : Prop := ∃ q, p = some q ∧ q.text ≠ wWith

/-- One token in the check of pairs: what it does to the stack. -/
inductive Stp (p : Option Tok) (t : Tok) : List ByteArray → List ByteArray → Prop where
  | opn (st : List ByteArray) : t.kind = 5 → (∀ q, p = some q → q.text = wWith) → t.text = ⟨#[]⟩ → Stp p t st (st ++ [wLt])
  | cls (st : List ByteArray) : t.kind = 7 → NoW p → t.text = ⟨#[]⟩ → Stp p t (st ++ [wLt]) st
  | nxt (st : List ByteArray) (q : Tok) : t.kind = 6 → p = some q → q.kind ≠ 5 → q.kind ≠ 6 → q.text ≠ wWith → t.text = ⟨#[]⟩ → Stp p t (st ++ [wLt]) (st ++ [wLt])
  | shut (st : List ByteArray) : 1 ≤ t.kind → t.kind ≤ 4 → NoW p → t.text ∈ closers3 → Stp p t (st ++ [opOf t.text]) st
  | wit (st : List ByteArray) (o : ByteArray) : 1 ≤ t.kind → t.kind ≤ 4 → NoW p → t.text = wWith → o ∈ heads3 → Stp p t (st ++ [o]) st
  | push (st : List ByteArray) : 1 ≤ t.kind → t.kind ≤ 4 → NoW p → t.text ∈ openers → Stp p t st (st ++ [t.text])
  | raw (st : List ByteArray) : 1 ≤ t.kind → t.kind ≤ 4 → NoW p → t.text ∉ closers → t.text ∉ openers → Stp p t st st

/-- Tokens in a row in the check. -/
inductive Chk : Option Tok → List ByteArray → List Tok → List ByteArray → Prop where
  | nil (p : Option Tok) (st : List ByteArray) : Chk p st [] st
  | cons {p : Option Tok} {t : Tok} {st st1 st2 : List ByteArray} {l : List Tok} : Stp p t st st1 → Chk (some t) st1 l st2 → Chk p st (t :: l) st2

def lst (p : Option Tok) (l : List Tok) : Option Tok := match l.getLast? with | some q => some q | none => p
theorem lst_nil (p : Option Tok) : lst p [] = p := rfl
theorem lst_cons (p : Option Tok) (t : Tok) (l : List Tok) : lst p (t :: l) = lst (some t) l := by
  unfold lst
  cases l with
  | nil => rfl
  | cons a l => rw [List.getLast?_cons_cons]; cases h : (a :: l).getLast? with
    | none => simp at h
    | some q => rfl
theorem lst_some {p : Option Tok} {l : List Tok} {q : Tok} (h : l.getLast? = some q) : lst p l = some q := by unfold lst; rw [h]
theorem Chk.snoc {t : Tok} {st1 st2 : List ByteArray} : ∀ {l : List Tok} {p : Option Tok} {st : List ByteArray}, Chk p st l st1 → Stp (lst p l) t st1 st2 → Chk p st (l ++ [t]) st2 := by
  intro l
  induction l with
  | nil => intro p st h hs; cases h; exact .cons hs (.nil _ _)
  | cons a l ih =>
    intro p st h hs
    cases h with
    | cons h1 h2 => exact .cons h1 (ih h2 (by rwa [lst_cons] at hs))

/-- A stack and what came, on the way. -/
structure Bi (st : List Lev) (out src : List Tok) : Prop where
  chk : Chk none [] out (st.map img)
  last : ∃ q, out.getLast? = some q ∧ q.text ≠ wWith
  raw : out.filter (fun t => decide (t.kind < 5)) = src
  head : ∃ q, out.head? = some q ∧ q.kind = 5
def Calm (out : List Tok) : Prop := ∃ q, out.getLast? = some q ∧ q.text ≠ wWith ∧ q.kind ≠ 5 ∧ q.kind ≠ 6

theorem empty_with : (⟨#[]⟩ : ByteArray) ≠ wWith := by decide
theorem Bi.noW {st : List Lev} {out src : List Tok} (h : Bi st out src) : NoW (lst none out) := by
  obtain ⟨q, h1, h2⟩ := h.last
  exact ⟨q, lst_some h1, h2⟩
theorem head_snoc {α : Type} {l : List α} {q x : α} (h : l.head? = some q) : (l ++ [x]).head? = some q := by
  cases l with
  | nil => cases h
  | cons a l => exact h
/-- A token of blocks is put. -/
theorem Bi.mark {st st' : List Lev} {out src : List Tok} {t : Tok} (h : Bi st out src) (ht : 5 ≤ t.kind) (hx : t.text = ⟨#[]⟩) (hs : Stp (lst none out) t (st.map img) (st'.map img)) : Bi st' (out ++ [t]) src :=
  ⟨h.chk.snoc hs, ⟨t, by simp, by rw [hx]; exact empty_with⟩, by rw [List.filter_append, h.raw]; simp; omega, by obtain ⟨q, h1, h2⟩ := h.head; exact ⟨q, head_snoc h1, h2⟩⟩
/-- A raw token is put. -/
theorem Bi.rawT {st st' : List Lev} {out src : List Tok} {t : Tok} (h : Bi st out src) (ht : t.kind ≤ 4) (hx : t.text ≠ wWith) (hs : Stp (lst none out) t (st.map img) (st'.map img)) : Bi st' (out ++ [t]) (src ++ [t]) :=
  ⟨h.chk.snoc hs, ⟨t, by simp, hx⟩, by rw [List.filter_append, h.raw]; congr 1; simp; omega, by obtain ⟨q, h1, h2⟩ := h.head; exact ⟨q, head_snoc h1, h2⟩⟩

theorem Bi.shut {p : Lev → Bool} {t : Tok} : ∀ (n : Nat) (st : List Lev) (out src : List Tok), st.length = n → Bi st out src → Bi (shutF p t st out).1 (shutF p t st out).2 src ∧ (Calm out → Calm (shutF p t st out).2) := by
  intro n
  induction n with
  | zero => intro st out src h hb; rw [List.eq_nil_of_length_eq_zero h] at hb ⊢; exact ⟨hb, id⟩
  | succ n ih =>
    intro st out src h hb
    rcases List.eq_nil_or_concat st with rfl | ⟨s, v, rfl⟩
    · simp at h
    · rw [List.concat_eq_append] at *
      cases hp : (v.block && p v) with
      | true =>
        rw [shutF_go hp]
        have hv : v.block = true := by cases hh : v.block with
          | true => rfl
          | false => rw [hh] at hp; cases hp
        have hb2 : Bi s (out ++ [markF 7 t]) src := hb.mark (by simp [markF]) rfl (by
          rw [List.map_append]
          have hi : [v].map img = [wLt] := by simp [img, hv]
          rw [hi]
          exact .cls _ rfl hb.noW rfl)
        obtain ⟨h1, h2⟩ := ih s _ src (by simpa using h) hb2
        exact ⟨h1, fun _ => h2 ⟨markF 7 t, by simp, empty_with, by simp [markF], by simp [markF]⟩⟩
      | false => rw [shutF_stop hp]; exact ⟨hb, id⟩

theorem Bi.oneA {t : Tok} {begins : Bool} {st : List Lev} {out src : List Tok} (h : Bi st out src) (hc : begins = true → Calm out) (hok : badA t begins st out = false) : Bi (oneA t begins st out).1 (oneA t begins st out).2 src := by
  cases begins with
  | false => exact h
  | true =>
    unfold Lx.oneA
    rw [if_pos rfl]
    obtain ⟨h1, h2⟩ := h.shut (p := deeper t) (t := t) _ st out src rfl
    have h2 := h2 (hc rfl)
    generalize shutF (deeper t) t st out = R at h1 h2
    obtain ⟨s, o⟩ := R
    simp only at h1 h2 ⊢
    split
    · rename_i hb
      rcases List.eq_nil_or_concat s with rfl | ⟨s, v, rfl⟩
      · cases hb
      · rw [List.concat_eq_append, topF_snoc] at *
        have hv : v.block = true := by cases hh : v.block with
          | true => rfl
          | false => rw [hh] at hb; cases hb
        refine h1.mark (by simp [markF]) rfl ?_
        rw [List.map_append]
        have hi : [v].map img = [wLt] := by simp [img, hv]
        rw [hi]
        obtain ⟨q, hq, q1, q2, q3⟩ := h2
        exact .nxt _ q rfl (lst_some hq) q2 q3 q1 rfl
    · exact h1

theorem closers_split {x : ByteArray} (h : x ∈ closers) : x ∈ closers3 ∨ x = wWith := by
  simp only [closers, closers3, List.mem_cons, List.not_mem_nil, or_false] at *
  rcases h with h | h | h | h
  · exact .inl (.inl h)
  · exact .inl (.inr (.inl h))
  · exact .inl (.inr (.inr h))
  · exact .inr h
theorem sq_eq {a : ByteArray} {l : List UInt8} : sq a l = true ↔ a = ⟨l.toArray⟩ := by
  unfold sq
  rw [beq_iff_eq, ByteArray.toList_eq]
  constructor
  · intro h; exact ByteArray.ext (by rw [← h])
  · intro h; rw [h]
theorem closesF_1 (o : ByteArray) : closesF ⟨#[41]⟩ o = sq o [40] := by unfold closesF; rw [if_pos (by decide +kernel)]
theorem closesF_2 (o : ByteArray) : closesF ⟨#[125]⟩ o = sq o [123] := by unfold closesF; rw [if_neg (by decide +kernel), if_pos (by decide +kernel)]
theorem closesF_3 (o : ByteArray) : closesF ⟨#[105, 110]⟩ o = sq o [108, 101, 116] := by unfold closesF; rw [if_neg (by decide +kernel), if_neg (by decide +kernel), if_pos (by decide +kernel)]
theorem closesF_4 (o : ByteArray) : closesF wWith o = (sq o [109, 97, 116, 99, 104] || (sq o [104, 97, 110, 100, 108, 101] || sq o [97, 98, 105, 108, 105, 116, 121])) := by unfold closesF; rw [if_neg (by decide +kernel), if_neg (by decide +kernel), if_neg (by decide +kernel), if_pos (by decide +kernel)]
theorem closes_op {x o : ByteArray} (hx : x ∈ closers3) (h : closesF x o = true) : o = opOf x := by
  simp only [closers3, List.mem_cons, List.not_mem_nil, or_false] at hx
  rcases hx with rfl | rfl | rfl
  · rw [closesF_1] at h; exact sq_eq.1 h
  · rw [closesF_2] at h; exact sq_eq.1 h
  · rw [closesF_3] at h; exact sq_eq.1 h
theorem closes_with {o : ByteArray} (h : closesF wWith o = true) : o ∈ heads3 := by
  rw [closesF_4, Bool.or_eq_true, Bool.or_eq_true, sq_eq, sq_eq, sq_eq] at h
  simp only [heads3, List.mem_cons, List.not_mem_nil, or_false]
  exact h
theorem closer_no_opener' : ∀ x ∈ closers, among openers x = false := by decide +kernel
theorem closer_no_opener (x : ByteArray) (h : x ∈ closers) : x ∉ openers := fun hh => by
  have := closer_no_opener' x h
  rw [among_mem.2 hh] at this
  cases this
theorem closer3_no_with : ∀ x ∈ closers3, x ≠ wWith := by decide +kernel
theorem closer3_closer' : ∀ x ∈ closers3, among closers x = true := by decide +kernel
theorem closer3_closer (x : ByteArray) (h : x ∈ closers3) : x ∈ closers := among_mem.1 (closer3_closer' x h)
theorem opener_no_with : ∀ x ∈ openers, x ≠ wWith := by decide +kernel

/-- One step. -/
theorem Bi.one {t nx : Tok} {begins more : Bool} {st : List Lev} {out src : List Tok} (h : Bi st out src) (hc : begins = true → Calm out) (hw : WfT t)
    (hok : (oneF t nx begins more st out).2.2 = 0) : Bi (oneF t nx begins more st out).1.1 (oneF t nx begins more st out).1.2 (src ++ [t]) ∧ ((oneF t nx begins more st out).2.1 = false → Calm (oneF t nx begins more st out).1.2) := by
  have hk := hw.kind
  cases hA : badA t begins st out with
  | true => rw [oneF_badA hA] at hok; simp at hok
  | false =>
    rw [oneF_okA hA] at hok ⊢
    have hb := h.oneA hc hA
    generalize Lx.oneA t begins st out = a at hok hb
    obtain ⟨st, out⟩ := a
    simp only at hok hb ⊢
    unfold oneF2 at hok ⊢
    cases hB : badB t st out with
    | true => rw [hB, if_pos rfl] at hok; simp at hok
    | false =>
      rw [hB] at hok
      rw [if_neg (by simp)] at hok ⊢
      rw [oneF3_fin] at hok ⊢
      have hfin : oneFin (oneC t nx more (oneB t st out).1 (oneB t st out).2) = ((oneC t nx more (oneB t st out).1 (oneB t st out).2).1, (oneC t nx more (oneB t st out).1 (oneB t st out).2).2, 0) := by
        unfold oneFin at hok ⊢
        split at hok
        · simp at hok
        · rename_i h1; rw [if_neg h1]
      rw [hfin]
      simp only
      clear hok hfin
      unfold badB at hB
      unfold Lx.oneB
      rw [closing_wf hw] at hB ⊢
      cases hcl : among closers t.text with
      | true =>
        rw [hcl, Bool.true_and] at hB
        rw [if_pos rfl]
        obtain ⟨h1, -⟩ := hb.shut (p := anyL) (t := t) _ st out src rfl
        have htop := shutF_any t _ st out rfl
        generalize shutF anyL t st out = R at hB h1 htop
        obtain ⟨s, o⟩ := R
        simp only at hB h1 htop ⊢
        rw [Bool.or_eq_false_iff] at hB
        obtain ⟨hB1, hB2⟩ := hB
        rcases List.eq_nil_or_concat s with rfl | ⟨s, v, rfl⟩
        · cases hB1
        · rw [List.concat_eq_append] at *
          have hv : v.block = false := by have := htop (by simp); rwa [topF_snoc] at this
          rw [topF_snoc] at hB2
          have hcv : closesF t.text v.text = true := by simpa using hB2
          rw [List.dropLast_concat]
          have hmem := among_mem.1 hcl
          have hno := closer_no_opener _ hmem
          have hop : opening t = false := by
            rw [opening_wf hw]
            cases hh : among openers t.text with
            | false => rfl
            | true => exact absurd (among_mem.1 hh) hno
          have hi : (s ++ [v]).map img = s.map img ++ [v.text] := by rw [List.map_append]; simp [img, hv]
          rcases closers_split hmem with h3 | h3
          · have hwi : withs t = false := by
              rw [withs_wf hw]
              cases hh : sq t.text [119, 105, 116, 104] with
              | false => rfl
              | true => exact absurd (sq_eq.1 hh) (closer3_no_with _ h3)
            rw [oneC_none hop hwi]
            simp only
            have hb2 : Bi s (o ++ [t]) (src ++ [t]) := h1.rawT hk.2 (closer3_no_with _ h3) (by
              rw [hi, closes_op h3 hcv]
              exact .shut _ hk.1 hk.2 h1.noW h3)
            exact ⟨hb2, fun _ => ⟨t, by simp, closer3_no_with _ h3, by omega, by omega⟩⟩
          · have hwi : withs t = true := by
              rw [withs_wf hw]
              exact sq_eq.2 h3
            have hs1 : Stp (lst none o) t ((s ++ [v]).map img) (s.map img) := by
              rw [hi]
              exact .wit _ _ hk.1 hk.2 h1.noW h3 (closes_with (by rw [← h3]; exact hcv))
            have hch := h1.chk.snoc hs1
            have hl : lst none (o ++ [t]) = some t := lst_some (by simp)
            have ho : Stp (lst none (o ++ [t])) (markF 5 nx) (s.map img) (s.map img ++ [wLt]) := .opn _ rfl (fun q hq => by rw [hl] at hq; injection hq with hq; rw [← hq]; exact h3) rfl
            have hch2 := hch.snoc ho
            have hraw : (o ++ [t] ++ [markF 5 nx]).filter (fun t => decide (t.kind < 5)) = src ++ [t] := by
              rw [List.filter_append, List.filter_append, h1.raw]
              have : decide (t.kind < 5) = true := by simp; omega
              simp [this, markF]
            have hhd : ∃ q, (o ++ [t] ++ [markF 5 nx]).head? = some q ∧ q.kind = 5 := by
              obtain ⟨q, e1, e2⟩ := h1.head
              exact ⟨q, head_snoc (head_snoc e1), e2⟩
            have hb3 : Bi (s ++ [⟨true, nx.col, ⟨#[]⟩⟩]) (o ++ [t] ++ [markF 5 nx]) (src ++ [t]) := ⟨by rw [List.map_append]; exact hch2, ⟨markF 5 nx, by simp, empty_with⟩, hraw, hhd⟩
            cases hop2 : opens nx more s with
            | true =>
              rw [oneC_with hop hwi hop2]
              exact ⟨hb3, fun hh => by cases hh⟩
            | false =>
              rw [oneC_shut hop hwi hop2]
              simp only
              refine ⟨hb3.mark (by simp [markF]) rfl ?_, fun _ => ⟨markF 7 nx, by simp, empty_with, by simp [markF], by simp [markF]⟩⟩
              rw [List.map_append]
              exact .cls _ rfl hb3.noW rfl
      | false =>
        rw [if_neg (by simp)]
        simp only
        have hncl : t.text ∉ closers := fun hh => by rw [among_mem.2 hh] at hcl; cases hcl
        have hnw : t.text ≠ wWith := fun hh => hncl (by rw [hh]; simp [closers, wWith])
        cases hop : among openers t.text with
        | true =>
          rw [oneC_open (by rw [opening_wf hw]; exact hop)]
          simp only
          have hm := among_mem.1 hop
          refine ⟨hb.rawT hk.2 hnw ?_, fun _ => ⟨t, by simp, hnw, by omega, by omega⟩⟩
          rw [List.map_append]
          exact .push _ hk.1 hk.2 hb.noW hm
        | false =>
          have hwi : withs t = false := by
            rw [withs_wf hw]
            cases hh : sq t.text [119, 105, 116, 104] with
            | false => rfl
            | true => exact absurd (sq_eq.1 hh) hnw
          rw [oneC_none (by rw [opening_wf hw]; exact hop) hwi]
          simp only
          refine ⟨hb.rawT hk.2 hnw (.raw _ hk.1 hk.2 hb.noW hncl fun hh => ?_), fun _ => ⟨t, by simp, hnw, by omega, by omega⟩⟩
          rw [among_mem.2 hh] at hop
          cases hop

theorem Base.one {t nx : Tok} {begins more : Bool} {st : List Lev} {out : List Tok} (h : Base st) (hok : (oneF t nx begins more st out).2.2 = 0) : Base (oneF t nx begins more st out).1.1 := by
  cases hA : badA t begins st out with
  | true => rw [oneF_badA hA] at hok; simp at hok
  | false =>
    rw [oneF_okA hA] at hok ⊢
    have hb := h.oneA hA
    generalize Lx.oneA t begins st out = a at hok hb
    obtain ⟨st, out⟩ := a
    simp only at hok hb ⊢
    unfold oneF2 at hok ⊢
    cases hB : badB t st out with
    | true => rw [hB, if_pos rfl] at hok; simp at hok
    | false =>
      rw [hB] at hok
      rw [if_neg (by simp)] at hok ⊢
      rw [oneF3_fin] at hok ⊢
      have h2 := (hb.oneB hB).oneC t nx more (Lx.oneB t st out).2
      unfold oneFin at hok ⊢
      split at hok
      · simp at hok
      · rename_i h1; rw [if_neg h1]; exact h2

theorem layG_bi (l : List Tok) (hw : ∀ t ∈ l, WfT t) : ∀ (f i : Nat) (op : Bool) (st : List Lev) (out : List Tok), i + f = l.length + 1 → Bi st out (l.take i) → Base st → (op = false → Calm out) → (layG l f i op st out).2.2 = 0 → Bi (layG l f i op st out).1.1 (layG l f i op st out).1.2 l ∧ Base (layG l f i op st out).1.1 := by
  intro f
  induction f with
  | zero => intro i op st out h hb hB hc hok; rw [List.take_of_length_le (by omega)] at hb; exact ⟨hb, hB⟩
  | succ f ih =>
    intro i op st out h hb hB hc hok
    by_cases hlt : i < l.length
    · have ht := List.getElem?_eq_getElem hlt
      rw [layG_step ht] at hok ⊢
      by_cases h1 : (oneF l[i] (nxT l i) (bgT l i op l[i]) (decide (i + 1 < l.length)) st out).2.2 = 0
      · rw [if_pos h1] at hok ⊢
        have hbg : bgT l i op l[i] = true → Calm out := fun hh => hc (by
          unfold bgT at hh
          cases op with
          | false => rfl
          | true => cases hh)
        obtain ⟨h2, h3⟩ := hb.one hbg (hw _ (List.getElem_mem hlt)) h1
        rw [← List.take_succ_eq_append_getElem hlt] at h2
        exact ih _ _ _ _ (by omega) h2 (hB.one h1) h3 hok
      · rw [if_neg h1] at hok
        exact absurd hok h1
    · rw [layG_end hlt] at hok ⊢
      rw [List.take_of_length_le (by omega)] at hb
      exact ⟨hb, hB⟩

theorem shut_last {t : Tok} : ∀ (n : Nat) (st : List Lev) (out : List Tok), st.length = n → st ≠ [] → (shutF anyL t st out).1 = [] → (shutF anyL t st out).2.getLast? = some (markF 7 t) := by
  intro n
  induction n with
  | zero => intro st out h hn; exact absurd (List.eq_nil_of_length_eq_zero h) hn
  | succ n ih =>
    intro st out h hn he
    rcases List.eq_nil_or_concat st with rfl | ⟨s, v, rfl⟩
    · exact absurd rfl hn
    · rw [List.concat_eq_append] at *
      cases hp : (v.block && anyL v) with
      | true =>
        rw [shutF_go hp] at he ⊢
        cases s with
        | nil => rw [shutF_nil]; simp
        | cons a s => exact ih _ _ (by simpa using h) (by simp) he
      | false => rw [shutF_stop hp] at he; simp at he

structure Blocks (m l : List Tok) : Prop where
  chk : Chk none [] m []
  raw : m.filter (fun t => decide (t.kind < 5)) = l
  head : ∃ q, m.head? = some q ∧ q.kind = 5
  last : ∃ q, m.getLast? = some q ∧ q.kind = 7
theorem goodL_wf {l : List Tok} (h : GoodL l) (t : Tok) (ht : t ∈ l) : WfT t := by
  obtain ⟨i, hi, rfl⟩ := List.getElem_of_mem ht
  exact (h i _ (List.getElem?_eq_getElem hi)).wf
theorem blocks_law {l : List Tok} (hg : GoodL l) (h : (layF l).2.2 = 0) : Blocks (layF l).1 l := by
  have h0 : Bi [⟨true, (l[0]?.getD (endT l)).col, ⟨#[]⟩⟩] [markF 5 (l[0]?.getD (endT l))] (l.take 0) := ⟨.cons (.opn _ rfl (fun q hq => by cases hq) rfl) (.nil _ _), ⟨_, rfl, empty_with⟩, by rw [List.take_zero]; simp [markF], ⟨_, rfl, rfl⟩⟩
  have h1 := layG_bi l (goodL_wf hg) (l.length + 1) 0 true _ _ (by omega) h0 ⟨_, rfl, rfl⟩ (fun hh => by cases hh)
  rw [layF_fin] at h ⊢
  generalize layG l (l.length + 1) 0 true [⟨true, (l[0]?.getD (endT l)).col, ⟨#[]⟩⟩] [markF 5 (l[0]?.getD (endT l))] = R at h h1
  unfold finL at h ⊢
  by_cases hR : R.2.2 = 0
  · rw [if_pos hR] at h ⊢
    obtain ⟨hb, hB⟩ := h1 hR
    obtain ⟨h2, -⟩ := hb.shut (p := anyL) (t := endT l) _ _ _ _ rfl
    have h3 := shut_last (t := endT l) _ R.1.1 R.1.2 rfl hB.ne
    by_cases he : (shutF anyL (endT l) R.1.1 R.1.2).1.isEmpty = true
    · rw [if_pos he] at h ⊢
      rw [List.isEmpty_iff] at he
      have hc := h2.chk
      rw [he] at hc
      exact ⟨hc, h2.raw, h2.head, ⟨_, h3 he, rfl⟩⟩
    · rw [if_neg he] at h
      simp at h
  · rw [if_neg hR] at h
    exact absurd h hR

/-! What an error is. -/
theorem oneF_err (t nx : Tok) (begins more : Bool) (st : List Lev) (out : List Tok) (h : (oneF t nx begins more st out).2.2 ≠ 0) : (oneF t nx begins more st out).2.2 = 15 ∨ (oneF t nx begins more st out).2.2 = 7 ∨ (oneF t nx begins more st out).2.2 = 11 := by
  cases hA : badA t begins st out with
  | true => rw [oneF_badA hA]; exact .inl rfl
  | false =>
    rw [oneF_okA hA] at h ⊢
    unfold oneF2 oneF3 at h ⊢
    split at h
    · rename_i h1; rw [if_pos h1]; exact .inr (.inl rfl)
    · rename_i h1
      rw [if_neg h1]
      split at h
      · rename_i h2; rw [if_pos h2]; exact .inr (.inr rfl)
      · simp at h
theorem layG_err (l : List Tok) : ∀ (f i : Nat) (op : Bool) (st : List Lev) (out : List Tok), (layG l f i op st out).2.2 ≠ 0 → (layG l f i op st out).2.2 = 15 ∨ (layG l f i op st out).2.2 = 7 ∨ (layG l f i op st out).2.2 = 11 := by
  intro f
  induction f with
  | zero => intro i op st out h; exact absurd rfl h
  | succ f ih =>
    intro i op st out h
    by_cases hlt : i < l.length
    · rw [layG_step (List.getElem?_eq_getElem hlt)] at h ⊢
      by_cases h1 : (oneF l[i] (nxT l i) (bgT l i op l[i]) (decide (i + 1 < l.length)) st out).2.2 = 0
      · rw [if_pos h1] at h ⊢
        exact ih _ _ _ _ h
      · rw [if_neg h1]
        exact oneF_err _ _ _ _ _ _ h1
    · rw [layG_end hlt] at h
      exact absurd rfl h
theorem layF_err {l : List Tok} (h : (layF l).2.2 ≠ 0) : (layF l).2.2 = 15 ∨ (layF l).2.2 = 7 ∨ (layF l).2.2 = 11 := by
  have h1 := layG_err l (l.length + 1) 0 true [⟨true, (l[0]?.getD (endT l)).col, ⟨#[]⟩⟩] [markF 5 (l[0]?.getD (endT l))]
  rw [layF_fin] at h ⊢
  generalize layG l (l.length + 1) 0 true [⟨true, (l[0]?.getD (endT l)).col, ⟨#[]⟩⟩] [markF 5 (l[0]?.getD (endT l))] = R at h h1
  unfold finL at h ⊢
  by_cases hR : R.2.2 = 0
  · rw [if_pos hR] at h ⊢
    split at h
    · simp at h
    · rename_i h2; rw [if_neg h2]; exact .inr (.inl rfl)
  · rw [if_neg hR]
    exact h1 hR

theorem next_at (s : ByteArray) (a k : Int) : (nextOf s a k).1.at_ = a := by
  unfold nextOf
  split
  · rfl
  · split
    · rfl
    · rfl
theorem raw_at (s : ByteArray) : ∀ (f : Nat) (a : Int) (acc : List Tok), 0 ≤ a → a ≤ s.size → (∀ t ∈ acc, 0 ≤ t.at_ ∧ t.at_ ≤ s.size) → ∀ t ∈ (rawL s f a acc).1, 0 ≤ t.at_ ∧ t.at_ ≤ s.size := by
  intro f
  induction f with
  | zero => intro a acc h0 ha h; exact h
  | succ f ih =>
    intro a acc h0 ha h
    have l1 : a ≤ lay s a := lay_ge s _ a
    have l2 : lay s a ≤ s.size := layL_le s _ a h0 ha
    simp only [rawL]
    split
    · exact h
    · split
      · exact fun t ht => by cases ht
      · split
        · exact fun t ht => by cases ht
        · split
          · exact fun t ht => by cases ht
          · rename_i n1 n2 n3 n4
            have hn := next_fits s (lay s a) (kindOf (bt s (lay s a))) (by omega) (by omega)
            refine ih _ _ (by omega) (by omega) fun t ht => ?_
            rcases List.mem_append.1 ht with ht | ht
            · exact h t ht
            · simp at ht
              rw [ht, next_at]
              omega
theorem tok_err {s : ByteArray} (h1 : (rawF s).2.2 = 0) (h2 : (tokF s).2.2 ≠ 0) : ((tokF s).2.2 = 15 ∨ (tokF s).2.2 = 7 ∨ (tokF s).2.2 = 11) ∧ 0 ≤ (tokF s).2.1 ∧ (tokF s).2.1 ≤ s.size ∧ (tokF s).1 = [] := by
  have hat : ∀ t ∈ (rawF s).1, 0 ≤ t.at_ ∧ t.at_ ≤ s.size := by
    unfold rawF
    split
    · exact fun t ht => by cases ht
    · exact raw_at s _ 0 [] (by omega) (by omega) (fun t ht => by cases ht)
  unfold tokF at h2 ⊢
  rw [if_neg (by rw [h1]; simp)] at h2 ⊢
  by_cases h3 : (layF (rawF s).1).2.2 = 0
  · rw [if_pos h3] at h2
    exact absurd rfl h2
  · rw [if_neg h3] at h2 ⊢
    have h4 := layF_err h3
    by_cases h5 : (layF (rawF s).1).2.1 = ((rawF s).1.length : Int)
    · rw [if_pos h5]
      exact ⟨h4, by simp only; omega, by simp only; omega, rfl⟩
    · rw [if_neg h5]
      have h6 := layF_idx _ h3 h5
      have h7 : (layF (rawF s).1).2.1.toNat < (rawF s).1.length := by omega
      have h8 := hat _ (List.getElem_mem h7)
      rw [List.getElem?_eq_getElem h7]
      exact ⟨h4, h8.1, h8.2, rfl⟩

end Go.Proofs.YtfnhjdehlikbaaaGreatDoor.Lx

/- slices.Clone (62) of tokens; what plain drops (63); the first one that it drops (105). -/
namespace Go.Proofs.YtfnhjdehlikbaaaGreatDoor.Lx
open Go.RowKit Go.Proofs.YtfnhjdehlikbaaaGreatDoorW.PrintWords

theorem own_empty54 (W : World) (B : Nat) (hB : B ≤ W.heap.size) : (W.alloc (.cells #[] 54)).ownsRow B 54 6 (.slice (some ⟨W.heap.size, 0, none⟩) 0 0) 0 [] :=
  ⟨by simp, .inr ⟨W.heap.size, 0, #[], rfl, hB, heap_new W _, Nat.le_refl _, by unfold maxLen; omega, by simp, by simp⟩⟩
theorem srcC_flat {g : Nat} {l : List Tok} {W : World} (h : SrcC (some ⟨g, 0, none⟩) l W) : ∀ j u, (flat l)[j]? = some u → W.cell? ⟨g, j, none⟩ = some u := by
  intro j u hj
  have hlt : j < (flat l).length := (List.getElem?_eq_some_iff.1 hj).1
  rw [flat_len] at hlt
  have hi : j / 6 < l.length := by omega
  have ht := List.getElem?_eq_getElem hi
  have hm : j % 6 < 6 := Nat.mod_lt _ (by omega)
  have e : j = j / 6 * 6 + j % 6 := by omega
  rw [e, flat_at l _ _ _ ht hm] at hj
  obtain ⟨g', hg, q0, q1, q2, q3, q4, q5⟩ := h _ _ ht
  injection hg with hg
  injection hg with hg
  subst hg
  rw [e]
  generalize l[j / 6] = t at hj q0 q1 q2 q3 q4 q5
  generalize j / 6 * 6 = b at *
  generalize j % 6 = r at *
  rcases r with _ | _ | _ | _ | _ | _ | r
  · rw [Nat.add_zero]; rw [q0, ← hj]; rfl
  · rw [q1, ← hj]; rfl
  · rw [q2, ← hj]; rfl
  · rw [q3, ← hj]; rfl
  · rw [q4, ← hj]; rfl
  · rw [q5, ← hj]; rfl
  · omega

set_option maxRecDepth 100000 in
set_option maxHeartbeats 8000000 in
theorem cloneT_any (l : List Tok) (g c : Nat) (w : World) (hl : l.length ≤ 1000000) (h : SrcC (some ⟨g, 0, none⟩) l w) :
    Calls Tryz.prog 62 #[.slice (some ⟨g, 0, none⟩) l.length c] w fun e w' => ∃ v, e = .returned v ∧ w'.ownsRow w.heap.size 54 6 v l.length (flat l) ∧ Below w.heap.size w w' := by
  obtain ⟨i0, hi, hz0, hz1, hz2⟩ := info_parts info54
  have HI := Aside0.mk hi; clear hi
  have HZ0 := Aside0.mk hz0; clear hz0
  have HZ1 := Aside0.mk hz1; clear hz1
  have HZ2 := Aside0.mk hz2; clear hz2
  have hold : ∀ j u, (flat l)[j]? = some u → (w.alloc (.cells #[] 54)).cell? ((⟨g, 0, none⟩ : Addr).add j) = some u := fun j u hj => by
    have h1 := srcC_flat h j u hj
    rw [show (⟨g, 0, none⟩ : Addr).add j = ⟨g, j, none⟩ by unfold Addr.add; split <;> simp_all]
    exact (((Below.refl _ w).alloc (Nat.le_refl _) _).cell (p := ⟨g, j, none⟩) (World.block_lt_of_cell? _ _ h1)).trans h1
  have HO := Aside0.mk hold
  have HL := Aside0.mk (flat_len l)
  have H1 := Aside0.mk (flat_one l)
  obtain ⟨n, hn⟩ : ∃ n, l.length = n := ⟨_, rfl⟩
  have HN := Aside0.mk hn
  rw [hn] at hl ⊢
  have heq := fun W => Lib.run_eql_slice_nil (P := Tryz.prog) W 34 54 (some ⟨g, 0, none⟩) n c 0 0 Tryz.underlying34
  clear h hold hn
  go_enter Tryz.func62, Tryz.ntmps62
  go_wp2_with (at_builtin; refine wpList_append_own_at _ rfl _ _ 34 rfl w.heap.size 54 i0 _ 6 56 Tryz.underlying34 HI.out HZ0.out HZ1.out HZ2.out rfl (by decide) (.slice (some ⟨w.heap.size, 0, none⟩) 0 0) 0 [] rfl (own_empty54 w _ (Nat.le_refl _)) ⟨g, 0, none⟩ n c (flat l) rfl (by rw [HL.out, HN.out]) HO.out H1.out (by unfold maxLen; omega) (by omega) (by simp) ?_; intro v' w3 hown' hgrow _ hat; have HW := Aside0.mk hown'; have HG := Aside0.mk hgrow; clear hown' hgrow hat)
  go_ret
  refine ⟨_, rfl, ?_, ?_⟩
  · have ho := HW.out
    rw [List.nil_append, Nat.zero_add] at ho
    exact ho
  · exact ((Below.refl _ w).alloc (Nat.le_refl _) _).grown HG.out (by simp) (fun k hk => by injection hk with hk; rw [← hk]; exact Nat.le_refl _)

set_option maxRecDepth 100000 in
theorem drops_any (t : Tok) (w : World) : Calls Tryz.prog 63 #[.agg t.cells] w fun e w' => e = .returned (.bool (decide (t.kind ≥ 5))) ∧ Below w.heap.size w w' := by
  obtain ⟨tk, tn, tx, ta, tl, tc⟩ := t
  simp only [Tok.cells]
  go_enter Tryz.func63, Tryz.ntmps63
  go_wp2
  go_ret
  exact ⟨rfl, (Below.refl _ w).alloc (Nat.le_refl _) _⟩

set_option maxRecDepth 100000 in
set_option maxHeartbeats 8000000 in
theorem indexFunc_first (t : Tok) (l : List Tok) (g c : Nat) (w : World) (hl : (t :: l).length ≤ 1000000) (h : SrcC (some ⟨g, 0, none⟩) (t :: l) w) (hk : 5 ≤ t.kind) :
    Calls Tryz.prog 105 #[.slice (some ⟨g, 0, none⟩) (t :: l).length c, .func (.func 63) #[] #[]] w fun e w' => e = .returned (.int .i64 0) ∧ Below w.heap.size w w' := by
  obtain ⟨g', hg, q0, q1, q2, q3, q4, q5⟩ := h 0 t rfl
  injection hg with hg
  injection hg with hg
  subst hg
  obtain ⟨n, hn⟩ : ∃ n, (t :: l).length = n := ⟨_, rfl⟩
  have hn1 : 1 ≤ n := by rw [← hn]; simp
  rw [hn] at hl ⊢
  have HD := Aside0.mk (fun W => drops_any t W)
  have hd : decide (t.kind ≥ 5) = true := decide_eq_true hk
  obtain ⟨tk, tn, tx, ta, tl, tc⟩ := t
  simp only [Nat.zero_mul, Nat.zero_add] at q0 q1 q2 q3 q4 q5
  have HD : Aside0 (∀ W, Calls Tryz.prog 63 #[.agg #[.int .i64 tk, .int .i64 tn, .string tx, .int .i64 ta, .int .i64 tl, .int .i64 tc]] W fun e w' => e = .returned (.bool true) ∧ Below W.heap.size W w') := ⟨fun W => by have := HD.out W; rw [hd] at this; exact this⟩
  have h0 : (0 : Int) < (n : Int) := by omega
  clear h hn hk hd
  go_enter Tryz.func105, Tryz.ntmps105
  go_wp2
  go_loopg [8] 1 (fun f t8 wr => t8 = .int .i64 0 ∧ wr = w)
  case atStart => exact ⟨rfl, rfl⟩
  case round =>
    obtain ⟨rfl, rfl⟩ := hrel
    go_wp2_with ((go_at_call 63; (with_reducible refine (HD.out _).mono ?_); rintro e w1 ⟨rfl, hb⟩; have HB := Aside0.mk hb; clear hb))
    go_ret
    exact ⟨rfl, HB.out⟩

end Go.Proofs.YtfnhjdehlikbaaaGreatDoor.Lx

/- slices.DeleteFunc (61) of tokens, where the first one goes; plain (30). -/
namespace Go.Proofs.YtfnhjdehlikbaaaGreatDoor.Lx
open Go.RowKit Go.Proofs.YtfnhjdehlikbaaaGreatDoorW.PrintWords

theorem zero54v (w : World) : (zeroValue 54).run Tryz.prog w = .ok (.agg #[.int .i64 0, .int .i64 0, .string ⟨#[]⟩, .int .i64 0, .int .i64 0, .int .i64 0]) w := by kernel_rfl

/-- Six cells set. -/
def setT (c : Array Value) (o : Nat) (t : Tok) : Array Value := (((((c.setIfInBounds (o + 0) (.int .i64 t.kind)).setIfInBounds (o + 1) (.int .i64 t.num)).setIfInBounds (o + 2) (.string t.text)).setIfInBounds (o + 3) (.int .i64 t.at_)).setIfInBounds (o + 4) (.int .i64 t.line)).setIfInBounds (o + 5) (.int .i64 t.col)
theorem setT_size (c : Array Value) (o : Nat) (t : Tok) : (setT c o t).size = c.size := by simp [setT]
theorem setT_out {c : Array Value} {o : Nat} {t : Tok} {j : Nat} (h : j < o ∨ o + 6 ≤ j) : (setT c o t)[j]? = c[j]? := by
  unfold setT
  rw [Array.getElem?_setIfInBounds_ne (by omega), Array.getElem?_setIfInBounds_ne (by omega), Array.getElem?_setIfInBounds_ne (by omega), Array.getElem?_setIfInBounds_ne (by omega), Array.getElem?_setIfInBounds_ne (by omega), Array.getElem?_setIfInBounds_ne (by omega)]
theorem setT_in {c : Array Value} {o : Nat} {t : Tok} (h : o + 6 ≤ c.size) : ∀ k v, t.cells.toList[k]? = some v → (setT c o t)[o + k]? = some v := by
  intro k v hv
  unfold setT
  rcases k with _ | _ | _ | _ | _ | _ | k
  · rw [Array.getElem?_setIfInBounds_ne (by omega), Array.getElem?_setIfInBounds_ne (by omega), Array.getElem?_setIfInBounds_ne (by omega), Array.getElem?_setIfInBounds_ne (by omega), Array.getElem?_setIfInBounds_ne (by omega), Array.getElem?_setIfInBounds_self_of_lt (by simp; omega)]; exact hv
  · rw [Array.getElem?_setIfInBounds_ne (by omega), Array.getElem?_setIfInBounds_ne (by omega), Array.getElem?_setIfInBounds_ne (by omega), Array.getElem?_setIfInBounds_ne (by omega), Array.getElem?_setIfInBounds_self_of_lt (by simp; omega)]; exact hv
  · rw [Array.getElem?_setIfInBounds_ne (by omega), Array.getElem?_setIfInBounds_ne (by omega), Array.getElem?_setIfInBounds_ne (by omega), Array.getElem?_setIfInBounds_self_of_lt (by simp; omega)]; exact hv
  · rw [Array.getElem?_setIfInBounds_ne (by omega), Array.getElem?_setIfInBounds_ne (by omega), Array.getElem?_setIfInBounds_self_of_lt (by simp; omega)]; exact hv
  · rw [Array.getElem?_setIfInBounds_ne (by omega), Array.getElem?_setIfInBounds_self_of_lt (by simp; omega)]; exact hv
  · rw [Array.getElem?_setIfInBounds_self_of_lt (by simp; omega)]; exact hv
  · simp [Tok.cells] at hv

/-- A row of tokens in cells, from an index on. -/
def InRow (cur : Array Value) (r : Nat) (t : Tok) : Prop := ∀ k v, t.cells.toList[k]? = some v → cur[r * 6 + k]? = some v
theorem tok_lt {t : Tok} {k : Nat} {v : Value} (h : t.cells.toList[k]? = some v) : k < 6 := by
  have := (List.getElem?_eq_some_iff.1 h).1
  simpa [Tok.cells] using this
structure DelAt (g cap : Nat) (L : List Tok) (j : Nat) (fl : List Tok) (w W : World) : Prop where
  blk : ∃ cur, W.heap[g]? = some (.cells cur 54) ∧ cur.size = cap * 6 ∧ (∀ (r : Nat) t, fl[r]? = some t → InRow cur r t) ∧ (∀ (r : Nat) t, j ≤ r → L[r]? = some t → InRow cur r t)
  keep : Keep (· = g) w W
  eq : fl = (L.take j).filter (fun t => decide (t.kind < 5))
  lt : fl.length < j

section
variable {g cap j : Nat} {L fl : List Tok} {w W W' : World} {t : Tok}
theorem DelAt.step (h : DelAt g cap L j fl w W) (hb : Below W.heap.size W W') : DelAt g cap L j fl w W' := by
  obtain ⟨cur, h1, h2⟩ := h.blk
  exact ⟨⟨cur, (hb.block _ (heap_lt h1)).trans h1, h2⟩, h.keep.trans (Keep.of_below hb), h.eq, h.lt⟩
theorem DelAt.old (h : DelAt g cap L j fl w W) {i : Nat} (hi : i < cap) : ∃ o0 o1 o2 o3 o4 o5, W.cell? ⟨g, i * 6, none⟩ = some o0 ∧ W.cell? ⟨g, i * 6 + 1, none⟩ = some o1 ∧ W.cell? ⟨g, i * 6 + 2, none⟩ = some o2 ∧ W.cell? ⟨g, i * 6 + 3, none⟩ = some o3 ∧ W.cell? ⟨g, i * 6 + 4, none⟩ = some o4 ∧ W.cell? ⟨g, i * 6 + 5, none⟩ = some o5 := by
  obtain ⟨cur, h1, h2, _⟩ := h.blk
  have e : ∀ k, k < 6 → ∃ o, W.cell? ⟨g, i * 6 + k, none⟩ = some o := fun k hk => by
    rw [cell_of h1]
    have : i * 6 + k < cur.size := by rw [h2]; omega
    exact ⟨_, Array.getElem?_eq_getElem this⟩
  obtain ⟨o0, e0⟩ := e 0 (by omega)
  obtain ⟨o1, e1⟩ := e 1 (by omega)
  obtain ⟨o2, e2⟩ := e 2 (by omega)
  obtain ⟨o3, e3⟩ := e 3 (by omega)
  obtain ⟨o4, e4⟩ := e 4 (by omega)
  obtain ⟨o5, e5⟩ := e 5 (by omega)
  exact ⟨o0, o1, o2, o3, o4, o5, e0, e1, e2, e3, e4, e5⟩
theorem DelAt.free (h : DelAt g cap L j fl w W) (k : Nat) : W.frozen? ⟨g, k, none⟩ = false := by
  obtain ⟨cur, h1, _⟩ := h.blk
  exact free_of h1 k
theorem DelAt.tok (h : DelAt g cap L j fl w W) (ht : L[j]? = some t) : W.cell? ⟨g, j * 6, none⟩ = some (.int .i64 t.kind) ∧ W.cell? ⟨g, j * 6 + 1, none⟩ = some (.int .i64 t.num) ∧ W.cell? ⟨g, j * 6 + 2, none⟩ = some (.string t.text) ∧ W.cell? ⟨g, j * 6 + 3, none⟩ = some (.int .i64 t.at_) ∧ W.cell? ⟨g, j * 6 + 4, none⟩ = some (.int .i64 t.line) ∧ W.cell? ⟨g, j * 6 + 5, none⟩ = some (.int .i64 t.col) := by
  obtain ⟨cur, h1, _, _, h4⟩ := h.blk
  have h5 := h4 j t (Nat.le_refl _) ht
  exact ⟨(cell_of h1 _).trans (h5 0 _ rfl), (cell_of h1 _).trans (h5 1 _ rfl), (cell_of h1 _).trans (h5 2 _ rfl), (cell_of h1 _).trans (h5 3 _ rfl), (cell_of h1 _).trans (h5 4 _ rfl), (cell_of h1 _).trans (h5 5 _ rfl)⟩
theorem take_filter (p : Tok → Bool) (ht : L[j]? = some t) : (L.take (j + 1)).filter p = (L.take j).filter p ++ (if p t = true then [t] else []) := by
  obtain ⟨hlt, rfl⟩ := List.getElem?_eq_some_iff.1 ht
  rw [List.take_succ_eq_append_getElem hlt, List.filter_append]
  cases hp : p L[j] <;> simp [hp]
theorem DelAt.skip (h : DelAt g cap L j fl w W) (ht : L[j]? = some t) (hk : decide (t.kind ≥ 5) = true) : DelAt g cap L (j + 1) fl w W := by
  obtain ⟨cur, h1, h2, h3, h4⟩ := h.blk
  refine ⟨⟨cur, h1, h2, h3, fun r u hr => h4 r u (by omega)⟩, h.keep, ?_, Nat.lt_succ_of_lt h.lt⟩
  rw [take_filter _ ht, h.eq, if_neg (by simp at hk ⊢; omega), List.append_nil]
theorem DelAt.put (h : DelAt g cap L j fl w W) (ht : L[j]? = some t) (hk : decide (t.kind ≥ 5) = false) (hj : j < cap) :
    DelAt g cap L (j + 1) (fl ++ [t]) w ((((((W.setCell ⟨g, fl.length * 6, none⟩ (.int .i64 t.kind)).setCell ⟨g, fl.length * 6 + 1, none⟩ (.int .i64 t.num)).setCell ⟨g, fl.length * 6 + 2, none⟩ (.string t.text)).setCell ⟨g, fl.length * 6 + 3, none⟩ (.int .i64 t.at_)).setCell ⟨g, fl.length * 6 + 4, none⟩ (.int .i64 t.line)).setCell ⟨g, fl.length * 6 + 5, none⟩ (.int .i64 t.col)) := by
  obtain ⟨cur, h1, h2, h3, h4⟩ := h.blk
  have hlt := h.lt
  have hsz : fl.length * 6 + 6 ≤ cur.size := by rw [h2]; omega
  refine ⟨⟨setT cur (fl.length * 6) t, heap_set (heap_set (heap_set (heap_set (heap_set (heap_set h1 _ _) _ _) _ _) _ _) _ _) _ _, by rw [setT_size, h2], fun r u hr => ?_, fun r u hr hu => ?_⟩, ?_, ?_, ?_⟩
  · intro k v hv
    have hk6 := tok_lt hv
    rcases Nat.lt_or_ge r fl.length with hl | hl
    · rw [List.getElem?_append_left hl] at hr
      rw [setT_out (by omega)]
      exact h3 r u hr k v hv
    · rw [List.getElem?_append_right hl] at hr
      obtain ⟨hlt2, hx⟩ := List.getElem?_eq_some_iff.1 hr
      simp at hlt2
      obtain rfl : r = fl.length := by omega
      simp at hx
      subst hx
      exact setT_in hsz k v hv
  · intro k v hv
    have hk6 := tok_lt hv
    rw [setT_out (by omega)]
    exact h4 r u (by omega) hu k v hv
  · exact (((((h.keep.setCell (.inl rfl) _).setCell (.inl rfl) _).setCell (.inl rfl) _).setCell (.inl rfl) _).setCell (.inl rfl) _).setCell (.inl rfl) _
  · rw [take_filter _ ht, h.eq, if_pos (by simp at hk ⊢; omega)]
  · rw [List.length_append]; simp; omega
end

/-- clear of tokens behind an index: their cells alone turn. -/
theorem run_clear_at (w : World) (g o n c : Nat) (cur : Array Value) (h : w.heap[g]? = some (.cells cur 54)) (hc : o + n * 6 ≤ cur.size) (hn0 : 0 < n) :
    ∃ L : List Value, L.length = n * 6 ∧ ∀ ty, (Builtin.clear_ #[34] ty #[.slice (some ⟨g, o, none⟩) n c]).run Tryz.prog w = .ok (.tuple #[]) (w.setCells g o L) := by
  obtain ⟨Z, hZ⟩ : ∃ Z, (Value.agg #[.int .i64 0, .int .i64 0, .string ⟨#[]⟩, .int .i64 0, .int .i64 0, .int .i64 0]).cells = Z := ⟨_, rfl⟩
  have hZs : Z.size = 6 := by rw [← hZ]; rfl
  have hZ1 : ∀ v ∈ Z.toList, v.oneCell' = true := by
    rw [← hZ]
    intro v hv
    have : v ∈ [Value.int .i64 0, .int .i64 0, .string ⟨#[]⟩, .int .i64 0, .int .i64 0, .int .i64 0] := hv
    simp at this
    rcases this with h | h | h <;> (rw [h]; rfl)
  obtain ⟨L, hL⟩ : ∃ L, (Builtin.zeroCells Z n).toList = L := ⟨_, rfl⟩
  have hLl : L.length = n * 6 := by
    rw [← hL]
    simp [Builtin.zeroCells, hZs]
  have hL1 : ∀ v ∈ L, v.oneCell' = true := by
    rw [← hL]
    intro v hv
    simp only [Builtin.zeroCells, Array.toList_map, List.mem_map] at hv
    obtain ⟨i, hi, rfl⟩ := hv
    have hlt : i % Z.size < Z.size := Nat.mod_lt _ (by rw [hZs]; omega)
    rw [getElem!_pos Z (i % Z.size) hlt]
    exact hZ1 _ (by simp)
  have hst := run_storeCells_cells (P := Tryz.prog) g o L 0 w (fun j hj => by rw [cell_of h, Array.getElem?_eq_getElem (show o + 0 + j < cur.size by rw [hLl] at hj; omega)]; rfl) (fun j hj => by rw [free_of h]) hL1
  rw [Nat.add_zero] at hst
  refine ⟨L, hLl, fun ty => ?_⟩
  obtain ⟨m, rfl⟩ : ∃ m, n = m + 1 := ⟨n - 1, by omega⟩
  simp [Builtin.clear_, run_underlying Tryz.underlying34, zero54v, hZ, hL, hst]
theorem keep_setCells {g : Nat} {w : World} : ∀ (L : List Value) (o : Nat) (W : World), Keep (· = g) w W → Keep (· = g) w (W.setCells g o L) := by
  intro L
  induction L with
  | nil => intro o W h; exact h
  | cons v L ih => intro o W h; exact ih _ _ (h.setCell (.inl rfl) _)

/-- What is left behind clear. -/
theorem DelAt.left {g cap : Nat} {L fl : List Tok} {w W : World} {j : Nat} (h : DelAt g cap L j fl w W) (Z : List Value) : SrcC (some ⟨g, 0, none⟩) fl (W.setCells g (fl.length * 6) Z) := by
  obtain ⟨cur, h1, h2, h3, _⟩ := h.blk
  intro i t ht
  have hlt := (List.getElem?_eq_some_iff.1 ht).1
  have h5 := h3 i t ht
  have e : ∀ k, k < 6 → (W.setCells g (fl.length * 6) Z).cell? ⟨g, i * 6 + k, none⟩ = cur[i * 6 + k]? := fun k hk => by
    rw [World.cell?_setCells_out g Z _ W ⟨g, i * 6 + k, none⟩ (fun _ _ => .inl (by show i * 6 + k < _; omega))]
    exact cell_of h1 _
  exact ⟨g, rfl, (e 0 (by omega)).trans (h5 0 _ rfl), (e 1 (by omega)).trans (h5 1 _ rfl), (e 2 (by omega)).trans (h5 2 _ rfl), (e 3 (by omega)).trans (h5 3 _ rfl), (e 4 (by omega)).trans (h5 4 _ rfl), (e 5 (by omega)).trans (h5 5 _ rfl)⟩

end Go.Proofs.YtfnhjdehlikbaaaGreatDoor.Lx

/- slices.DeleteFunc (61) of tokens, where the first one goes; plain (30): the walks. -/
namespace Go.Proofs.YtfnhjdehlikbaaaGreatDoor.Lx
open Go.RowKit Go.Proofs.YtfnhjdehlikbaaaGreatDoorW.PrintWords


set_option maxRecDepth 100000 in
set_option maxHeartbeats 16000000 in
theorem deleteFunc_first (t : Tok) (l : List Tok) (g cap : Nat) (cur : Array Value) (w : World) (hl : (t :: l).length ≤ 1000000) (hlc : (t :: l).length ≤ cap) (hh : w.heap[g]? = some (.cells cur 54)) (hsz : cur.size = cap * 6) (hcur : cur.toList.take ((t :: l).length * 6) = flat (t :: l)) (hk : 5 ≤ t.kind) :
    Calls Tryz.prog 61 #[.slice (some ⟨g, 0, none⟩) (t :: l).length cap, .func (.func 63) #[] #[]] w fun e w' => e = .returned (.slice (some ⟨g, 0, none⟩) ((t :: l).filter (fun t => decide (t.kind < 5))).length cap) ∧ ((t :: l).filter (fun t => decide (t.kind < 5))).length ≤ cap ∧ SrcC (some ⟨g, 0, none⟩) ((t :: l).filter (fun t => decide (t.kind < 5))) w' ∧ Keep (· = g) w w' := by
  have hrow : ∀ (r : Nat) u, (t :: l)[r]? = some u → InRow cur r u := fun r u hr k v hv => by
    have h6 := tok_lt hv
    have h1 := (flat_at (t :: l) r k u hr h6).trans hv
    rw [← hcur, List.getElem?_take] at h1
    split at h1
    · rw [← Array.getElem?_toList]; exact h1
    · cases h1
  have hsrc : SrcC (some ⟨g, 0, none⟩) (t :: l) w := fun i u hu => by
    have h5 := hrow i u hu
    exact ⟨g, rfl, (cell_of hh _).trans (h5 0 _ rfl), (cell_of hh _).trans (h5 1 _ rfl), (cell_of hh _).trans (h5 2 _ rfl), (cell_of hh _).trans (h5 3 _ rfl), (cell_of hh _).trans (h5 4 _ rfl), (cell_of hh _).trans (h5 5 _ rfl)⟩
  have HI := Aside0.mk (indexFunc_first t l g cap w hl hsrc hk)
  have HD0 : Aside0 (DelAt g cap (t :: l) 1 [] w w) := ⟨⟨cur, hh, hsz, fun r u hr => by simp at hr, fun r u _ hu => hrow r u hu⟩, Keep.refl _ _, by simp [List.take]; omega, by simp⟩
  have hn1 : 1 ≤ (t :: l).length := by simp
  clear hrow hsrc hh hsz hcur hk
  generalize t :: l = L at *
  obtain ⟨n, hn⟩ : ∃ n, L.length = n := ⟨_, rfl⟩
  rw [hn] at hl hlc hn1 HI ⊢
  have HN := Aside0.mk hn
  clear hn
  go_enter Tryz.func61, Tryz.ntmps61
  go_wp2_with ((go_at_call 105; (with_reducible refine HI.out.mono ?_); rintro e w1 ⟨rfl, hb⟩; have HD1 := Aside0.mk (HD0.out.step hb); clear hb))
  clear HI HD0
  have HK := Aside0.mk drops_any
  go_loopg [6, 5] n (fun f t6 t5 wr => ∃ (j : Nat) (fl : List Tok), t6 = .int .i64 (j : Int) ∧ t5 = .int .i64 (fl.length : Int) ∧ j + f = n + 1 ∧ j ≤ n ∧ Aside0 (DelAt g cap L j fl w wr))
  case atStart => exact ⟨1, [], rfl, rfl, by omega, by omega, ⟨HD1.out⟩⟩
  case round =>
    clear HD1
    obtain ⟨j, fl, rfl, rfl, hjf, hjn, HD⟩ := hrel
    have hlt := HD.out.lt
    obtain ⟨i, hi⟩ : ∃ i, fl.length = i := ⟨_, rfl⟩
    have HFL := Aside0.mk hi
    rw [hi] at hlt ⊢
    clear hi
    by_cases hj : j < n
    · obtain ⟨f, rfl⟩ : ∃ f, gk = f + 1 := ⟨gk - 1, by omega⟩
      have hjl : j < L.length := by rw [HN.out]; exact hj
      have hti := List.getElem?_eq_getElem hjl
      have htok := HD.out.tok hti
      generalize L[j] = t at hti htok
      have HTI := Aside0.mk hti
      obtain ⟨q0, q1, q2, q3, q4, q5⟩ := htok
      obtain ⟨tk, tn, tx, ta, tl, tc⟩ := t
      simp only at q0 q1 q2 q3 q4 q5
      have hj2 : (j : Int) < (n : Int) := by omega
      have hi2 : (i : Int) < (n : Int) := by omega
      clear hti hjl
      have HKT : Aside0 (∀ W, Calls Tryz.prog 63 #[.agg #[.int .i64 tk, .int .i64 tn, .string tx, .int .i64 ta, .int .i64 tl, .int .i64 tc]] W fun e w' => e = .returned (.bool (decide (tk ≥ 5))) ∧ Below W.heap.size W w') := ⟨fun W => HK.out ⟨tk, tn, tx, ta, tl, tc⟩ W⟩
      cases hkk : decide (tk ≥ 5) with
      | true =>
        rw [hkk] at HKT
        have HKK := Aside0.mk hkk
        clear hkk
        go_wp2_with ((go_at_call 63; (with_reducible refine (HKT.out _).mono ?_); rintro e w1 ⟨rfl, hb⟩; have HB := Aside0.mk (((Below.refl _ wr).alloc (Nat.le_refl _) _).trans (hb.mono (by simp))); clear hb))
        go_roundg f
        case measure => omega
        case rel => exact ⟨j + 1, fl, by go_num, by rw [HFL.out], by omega, by omega, ⟨(HD.out.step HB.out).skip HTI.out HKK.out⟩⟩
      | false =>
        rw [hkk] at HKT
        have HKK := Aside0.mk hkk
        clear hkk
        go_wp2_with ((go_at_call 63; (with_reducible refine (HKT.out _).mono ?_); rintro e w1 ⟨rfl, hb⟩; have hbox := (hb.block wr.heap.size (by simp)).trans (heap_new wr _); have z0 : w1.cell? ⟨wr.heap.size, 0, none⟩ = some (.int .i64 tk) := cell_of hbox 0; have z1 : w1.cell? ⟨wr.heap.size, 1, none⟩ = some (.int .i64 tn) := cell_of hbox 1; have z2 : w1.cell? ⟨wr.heap.size, 2, none⟩ = some (.string tx) := cell_of hbox 2; have z3 : w1.cell? ⟨wr.heap.size, 3, none⟩ = some (.int .i64 ta) := cell_of hbox 3; have z4 : w1.cell? ⟨wr.heap.size, 4, none⟩ = some (.int .i64 tl) := cell_of hbox 4; have z5 : w1.cell? ⟨wr.heap.size, 5, none⟩ = some (.int .i64 tc) := cell_of hbox 5; have HD2 := Aside0.mk (HD.out.step (((Below.refl _ wr).alloc (Nat.le_refl _) _).trans (hb.mono (by simp)))); obtain ⟨o0, o1, o2, o3, o4, o5, y0, y1, y2, y3, y4, y5⟩ := HD2.out.old (i := i) (by omega); have fz := HD2.out.free; clear hb hbox))
        go_roundg f
        case measure => omega
        case rel => exact ⟨j + 1, fl ++ [⟨tk, tn, tx, ta, tl, tc⟩], by go_num, by rw [List.length_append, HFL.out]; go_num, by omega, by omega, ⟨by have := HD2.out.put HTI.out HKK.out (by omega); rw [HFL.out] at this; exact this⟩⟩
    · obtain rfl : j = n := by omega
      have hblk := HD.out.blk
      obtain ⟨cur, h1, h2, _⟩ := hblk
      obtain ⟨Z, _, hZ⟩ := run_clear_at wr g (i * 6) (j - i) (cap - i) cur h1 (by rw [h2]; omega) (by omega)
      have hin : (i : Int) ≤ (j : Int) := by omega
      have hjj : ¬ ((j : Int) < (j : Int)) := by omega
      have hic : (i : Int) ≤ (cap : Int) := by omega
      have HEQ := Aside0.mk HD.out.eq
      have HLE := Aside0.mk (HD.out.left Z)
      have HKE := Aside0.mk (keep_setCells Z (i * 6) wr HD.out.keep)
      clear h1 h2 HK hj hjf hjn
      go_wp2
      go_ret
      have he := HEQ.out
      rw [List.take_of_length_le (by rw [HN.out]; exact Nat.le_refl _)] at he
      rw [← he, HFL.out]
      have hle := HLE.out
      rw [HFL.out] at hle
      exact ⟨rfl, by omega, hle, HKE.out⟩

set_option maxRecDepth 100000 in
set_option maxHeartbeats 4000000 in
/-- plain of tokens of which the first one is of blocks. -/
theorem plain_any (t : Tok) (l : List Tok) (g c : Nat) (w : World) (hl : (t :: l).length ≤ 1000000) (h : SrcC (some ⟨g, 0, none⟩) (t :: l) w) (hk : 5 ≤ t.kind) :
    Calls Tryz.prog 30 #[.slice (some ⟨g, 0, none⟩) (t :: l).length c] w fun e w' => ∃ A c', e = .returned (.slice A ((t :: l).filter (fun t => decide (t.kind < 5))).length c') ∧ ((t :: l).filter (fun t => decide (t.kind < 5))).length ≤ c' ∧ SrcC A ((t :: l).filter (fun t => decide (t.kind < 5))) w' ∧ Below w.heap.size w w' := by
  have HC := Aside0.mk (cloneT_any (t :: l) g c w hl h)
  have HD := Aside0.mk (fun g cap cur W h1 h2 h3 h4 => deleteFunc_first t l g cap cur W hl h1 h2 h3 h4 hk)
  have hn1 : 0 < (t :: l).length := by simp
  clear h hk
  generalize t :: l = L at *
  obtain ⟨n, hn⟩ : ∃ n, L.length = n := ⟨_, rfl⟩
  rw [hn] at hl hn1 HC HD ⊢
  clear hn
  go_enter Tryz.func30, Tryz.ntmps30
  go_wp2_with (first
    | (go_at_call 62; (with_reducible refine HC.out.mono ?_); rintro e w1 ⟨v, rfl, hown, hb⟩; obtain ⟨g1, cap, cur, rfl, hB, hh, hnc, hcm, hcs, htk⟩ := hown.2.resolve_left (fun hx => by omega); have HB := Aside0.mk hb; have HG := Aside0.mk hB; have HH := Aside0.mk hh; have HCS := Aside0.mk hcs; have HTK := Aside0.mk htk; clear hb hown hB hh hcs htk)
    | (go_at_call 61; (with_reducible refine (HD.out _ _ _ _ hnc HH.out HCS.out HTK.out).mono ?_); rintro e w2 ⟨rfl, hle, hs, hkp⟩; have HS := Aside0.mk hs; have HK := Aside0.mk hkp; clear hs hkp))
  go_ret
  exact ⟨_, _, rfl, hle, HS.out, HB.out.trans (HK.out.below HB.out.size (fun i hi e => by have := HG.out; omega))⟩

end Go.Proofs.YtfnhjdehlikbaaaGreatDoor.Lx

/- LexBlocks (8): its map of openings, its stack, the top of it (31). -/
namespace Go.Proofs.YtfnhjdehlikbaaaGreatDoor.Lx
open Go.RowKit Go.Proofs.YtfnhjdehlikbaaaGreatDoorW.PrintWords Go.Instr

/-! A map of strings to strings. -/
def sent (k v : ByteArray) (i : Nat) : MapEntry := { key := .string k, val := .string v, born := i }
theorem run_update56 {w : World} {b : Nat} {es : List MapEntry} {c : Nat} (k v : ByteArray) (h : w.heap[b]? = some (.map es.toArray c)) (hk : findNow .string (.string k) es 0 = some none) :
    (Instr.mapUpdate 56 (.map (some b)) (.string k) (.string v)).run Tryz.prog w = .ok () (w.putObj b (.map (es ++ [sent k v c]).toArray (c + 1))) := by
  have hg := Go.MapKept.run_getObj_map (P := Tryz.prog) (w := w) (r := b) (es := es.toArray) (clock := c) h
  have hc : (Instr.checkKey false 10000 9 (.string k)).run Tryz.prog w = .ok () w := Go.MapKept.run_checkKey (P := Tryz.prog) (w := w) (kt := 9) (d := .string) (k := .string k) Tryz.underlying9 (by simp [Go.MapKept.IsKey]) false 9999
  have hf := Go.MapKept.run_findKey (P := Tryz.prog) (w := w) (kt := 9) (d := .string) (k := .string k) (l := es) Tryz.underlying9 hk
  unfold Instr.mapUpdate
  simp only [Sem.run_bind, Sem.run_pure, run_underlying Tryz.underlying56, Result.andThen, hg, hc, hf]
  rw [Go.MapKept.run_setObj_map _ h]
  simp [World.putObj, sent]
theorem run_lookup56 {w : World} {b : Nat} {es : List MapEntry} {c i : Nat} {v : ByteArray} (k : ByteArray) (h : w.heap[b]? = some (.map es.toArray c)) (hk : findNow .string (.string k) es 0 = some (some (i, .string v))) :
    (Instr.lookup 56 (.map (some b)) (.string k) false).run Tryz.prog w = .ok (.string v) w := by
  have hg := Go.MapKept.run_getObj_map (P := Tryz.prog) (w := w) (r := b) (es := es.toArray) (clock := c) h
  have hc : (Instr.checkKey es.toArray.isEmpty 10000 9 (.string k)).run Tryz.prog w = .ok () w := Go.MapKept.run_checkKey (P := Tryz.prog) (w := w) (kt := 9) (d := .string) (k := .string k) Tryz.underlying9 (by simp [Go.MapKept.IsKey]) es.toArray.isEmpty 9999
  have hf := Go.MapKept.run_findKey (P := Tryz.prog) (w := w) (kt := 9) (d := .string) (k := .string k) (l := es) Tryz.underlying9 hk
  unfold Instr.lookup
  simp only [Sem.run_bind, Sem.run_pure, run_underlying Tryz.underlying56, Result.andThen, hg, hc, hf]
  rfl
def ents1 : List MapEntry := [sent ⟨#[41]⟩ ⟨#[40]⟩ 0]
def ents2 : List MapEntry := ents1 ++ [sent ⟨#[125]⟩ ⟨#[123]⟩ 1]
def ents3 : List MapEntry := ents2 ++ [sent ⟨#[105, 110]⟩ ⟨#[108, 101, 116]⟩ 2]
def opensObj : Obj := .map ents3.toArray 3
theorem find_0 : findNow .string (.string ⟨#[41]⟩) [] 0 = some none := rfl
theorem find_1 : findNow .string (.string ⟨#[125]⟩) ents1 0 = some none := by kernel_rfl
theorem find_2 : findNow .string (.string ⟨#[105, 110]⟩) ents2 0 = some none := by kernel_rfl
theorem find_op {x : ByteArray} (h : x ∈ closers3) : ∃ i, findNow .string (.string x) ents3 0 = some (some (i, .string (opOf x))) := by
  simp only [closers3, List.mem_cons, List.not_mem_nil, or_false] at h
  rcases h with rfl | rfl | rfl
  · exact ⟨0, by kernel_rfl⟩
  · exact ⟨1, by kernel_rfl⟩
  · exact ⟨2, by kernel_rfl⟩

theorem opens_1 {W : World} {p : Nat} (h : W.heap[p]? = some (.map #[] 0)) : (Instr.mapUpdate 56 (.map (some p)) (.string ⟨#[41]⟩) (.string ⟨#[40]⟩)).run Tryz.prog W = .ok () (W.putObj p (.map #[sent ⟨#[41]⟩ ⟨#[40]⟩ 0] 1)) :=
  run_update56 (es := []) _ _ h find_0
theorem opens_2 {W : World} {p : Nat} (h : W.heap[p]? = some (.map #[sent ⟨#[41]⟩ ⟨#[40]⟩ 0] 1)) : (Instr.mapUpdate 56 (.map (some p)) (.string ⟨#[125]⟩) (.string ⟨#[123]⟩)).run Tryz.prog W = .ok () (W.putObj p (.map #[sent ⟨#[41]⟩ ⟨#[40]⟩ 0, sent ⟨#[125]⟩ ⟨#[123]⟩ 1] 2)) :=
  run_update56 (es := ents1) _ _ h find_1
theorem opens_3 {W : World} {p : Nat} (h : W.heap[p]? = some (.map #[sent ⟨#[41]⟩ ⟨#[40]⟩ 0, sent ⟨#[125]⟩ ⟨#[123]⟩ 1] 2)) : (Instr.mapUpdate 56 (.map (some p)) (.string ⟨#[105, 110]⟩) (.string ⟨#[108, 101, 116]⟩)).run Tryz.prog W = .ok () (W.putObj p opensObj) :=
  run_update56 (es := ents2) _ _ h find_2

theorem opens_12 {W : World} {p : Nat} (h : W.heap[p]? = some (.map #[] 0)) : (Instr.mapUpdate 56 (.map (some p)) (.string ⟨#[125]⟩) (.string ⟨#[123]⟩)).run Tryz.prog (W.putObj p (.map #[sent ⟨#[41]⟩ ⟨#[40]⟩ 0] 1)) = .ok () ((W.putObj p (.map #[sent ⟨#[41]⟩ ⟨#[40]⟩ 0] 1)).putObj p (.map #[sent ⟨#[41]⟩ ⟨#[40]⟩ 0, sent ⟨#[125]⟩ ⟨#[123]⟩ 1] 2)) :=
  opens_2 (heap_put h _)
theorem opens_123 {W : World} {p : Nat} (h : W.heap[p]? = some (.map #[] 0)) : (Instr.mapUpdate 56 (.map (some p)) (.string ⟨#[105, 110]⟩) (.string ⟨#[108, 101, 116]⟩)).run Tryz.prog ((W.putObj p (.map #[sent ⟨#[41]⟩ ⟨#[40]⟩ 0] 1)).putObj p (.map #[sent ⟨#[41]⟩ ⟨#[40]⟩ 0, sent ⟨#[125]⟩ ⟨#[123]⟩ 1] 2)) = .ok () (((W.putObj p (.map #[sent ⟨#[41]⟩ ⟨#[40]⟩ 0] 1)).putObj p (.map #[sent ⟨#[41]⟩ ⟨#[40]⟩ 0, sent ⟨#[125]⟩ ⟨#[123]⟩ 1] 2)).putObj p opensObj) :=
  opens_3 (heap_put (heap_put h _) _)

/-- The check's stack behind its box, and its map. -/
structure BkAt (b : Nat) (st : List ByteArray) (v : Value) (w W : World) : Prop where
  box : W.heap[b]? = some (.cells #[v] 28)
  map : W.heap[b + 1]? = some opensObj
  own : W.ownsRow (b + 2) 9 1 v st.length (st.map Value.string)
  below : Below b w W
  size : b + 2 ≤ W.heap.size

section
variable {b : Nat} {st : List ByteArray} {v v' : Value} {w W W' : World} {x : ByteArray}
theorem BkAt.step (h : BkAt b st v w W) (hb : Below W.heap.size W W') : BkAt b st v w W' :=
  ⟨(hb.block _ (heap_lt h.box)).trans h.box, (hb.block _ (heap_lt h.map)).trans h.map, own_move h.own (fun k hk => hb.block k (own_lt h.own k hk)), h.below.trans (hb.mono (by have := h.size; omega)), Nat.le_trans h.size hb.size⟩
theorem BkAt.alloc (h : BkAt b st v w W) (o : Obj) : BkAt b st v w (W.alloc o) := h.step ((Below.refl _ W).alloc (Nat.le_refl _) o)
/-- An element more, and the box turned. -/
theorem BkAt.push (h : BkAt b st v w W) (hG : W.grownBy W' v.ownBlock) (hO : W'.ownsRow (b + 2) 9 1 v' (st.length + 1) (st.map Value.string ++ [.string x])) : BkAt b (st ++ [x]) v' w (W'.setCell ⟨b, 0, none⟩ v') := by
  have hB : Below (b + 2) W W' := (Below.refl _ W).grown hG h.size (fun k hk => own_base h.own k hk)
  have hbx : W'.heap[b]? = some (.cells #[v] 28) := (hB.block _ (by omega)).trans h.box
  have hO2 : W'.ownsRow (b + 2) 9 1 v' (st ++ [x]).length ((st ++ [x]).map Value.string) := by rw [List.length_append, List.map_append]; exact hO
  refine ⟨heap_set hbx 0 v', (heap_set_other (by simp) _).trans ((hB.block _ (by omega)).trans h.map), own_move hO2 (fun k hk => heap_set_other (fun e => by have := own_base hO2 k hk; simp at e; omega) _), ?_, ?_⟩
  · exact (h.below.trans (hB.mono (by omega))).setCell (p := ⟨b, 0, none⟩) (Nat.le_refl _) _
  · simp [World.setCell]; exact Nat.le_trans h.size hB.size
theorem BkAt.pop {A : Option Addr} {n c : Nat} (h : BkAt b (st ++ [x]) (.slice A n c) w W) : BkAt b st (.slice A st.length c) w (W.setCell ⟨b, 0, none⟩ (.slice A st.length c)) := by
  have hown : W.ownsRow (b + 2) 9 1 (.slice A st.length c) st.length (st.map Value.string) := by
    refine ⟨by simp, .inr ?_⟩
    rcases h.own.2 with ⟨_, h2⟩ | ⟨g, cap, cur, h1, h2, h3, h4, h5, h6, h7⟩
    · simp at h2
    · injection h1 with h1 h8 h9
      subst h1 h9
      refine ⟨g, c, cur, rfl, h2, h3, by simp at h4; omega, h5, h6, ?_⟩
      have h10 := congrArg (List.take st.length) h7
      rw [List.take_take, Nat.min_eq_left (by simp)] at h10
      rw [Nat.mul_one, h10, List.map_append, List.take_append_of_le_length (by simp), List.take_of_length_le (by simp)]
  refine ⟨heap_set h.box 0 _, (heap_set_other (by simp) _).trans h.map, own_move hown (fun k hk => heap_set_other (fun e => by have := own_base hown k hk; simp at e; omega) _), h.below.setCell (p := ⟨b, 0, none⟩) (Nat.le_refl _) _, ?_⟩
  simp [World.setCell]; exact h.size
theorem BkAt.form (h : BkAt b st v w W) : ∃ A c, v = .slice A st.length c := by
  rcases h.own.2 with ⟨h1, h2⟩ | ⟨g, cap, cur, h1, _⟩
  · exact ⟨none, 0, by rw [h2]; exact h1⟩
  · exact ⟨_, _, h1⟩
theorem BkAt.top {A : Option Addr} {n c : Nat} (h : BkAt b (st ++ [x]) (.slice A n c) w W) : n = st.length + 1 ∧ ∃ g, A = some ⟨g, 0, none⟩ ∧ W.cell? ⟨g, st.length, none⟩ = some (.string x) := by
  rcases h.own.2 with ⟨_, h2⟩ | ⟨g, cap, cur, h1, h2, h3, h4, h5, h6, h7⟩
  · simp at h2
  · injection h1 with h1 h8 h9
    subst h1 h9
    refine ⟨by simpa using h8, g, rfl, ?_⟩
    have hcs := h.own.cells rfl st.length (.string x) (by simp)
    rwa [addr_add'] at hcs
where addr_add' {g k : Nat} : (⟨g, 0, none⟩ : Addr).add k = ⟨g, k, none⟩ := by unfold Addr.add; split <;> simp_all
end

/-- At the check's beginning. -/
theorem BkAt.start {w W : World} (h : Below w.heap.size w W) (o1 o2 o3 : Obj) : BkAt W.heap.size [] (.slice none 0 0) W (((((W.alloc (.cells #[.slice none 0 0] 28)).alloc o1).putObj (W.heap.size + 1) o2).putObj (W.heap.size + 1) o3).putObj (W.heap.size + 1) opensObj) := by
  have hz : W.heap.size + 1 < ((W.alloc (.cells #[.slice none 0 0] 28)).alloc o1).heap.size := by simp
  refine ⟨(heap_put_other (by omega) _).trans ((heap_put_other (by omega) _).trans ((heap_put_other (by omega) _).trans (heap_alloc (heap_new _ _) _))), World.putObj_heap_same (by simp), World.ownsRow_nil _ _ _ _, ?_, by simp⟩
  exact below_put (below_put (below_put (((Below.refl _ W).alloc (Nat.le_refl _) _).alloc (by simp) _) (Nat.le_succ _) _) (Nat.le_succ _) _) (Nat.le_succ _) _

set_option maxRecDepth 100000 in
set_option maxHeartbeats 4000000 in
theorem top31_any (b : Nat) (st : List ByteArray) (x : ByteArray) (v : Value) (w0 w : World) (hl : st.length ≤ 1000000) (h : BkAt b (st ++ [x]) v w0 w) :
    Calls Tryz.prog 31 #[.pointer (some ⟨b, 0, none⟩)] w fun e w' => e = .returned (.string x) ∧ w = w' := by
  obtain ⟨A, c, rfl⟩ := h.form
  obtain ⟨hn, g, rfl, hc⟩ := h.top
  have c0 : w.cell? ⟨b, 0, none⟩ = some (.slice (some ⟨g, 0, none⟩) (st ++ [x]).length c) := cell_of h.box 0
  obtain ⟨n, hnn⟩ : ∃ n, st.length = n := ⟨_, rfl⟩
  rw [hn] at c0
  rw [hnn] at c0 hc hl
  clear h hn hnn
  go_enter Tryz.func31, Tryz.ntmps31
  go_wp2
  go_ret
  exact ⟨rfl, rfl⟩

/-- The token ahead of one. -/
def pv (m : List Tok) (i : Nat) : Option Tok := if i = 0 then none else m[i - 1]?
theorem pv_succ (m : List Tok) (i : Nat) : pv m (i + 1) = m[i]? := rfl
theorem Chk.at_ {m : List Tok} {i : Nat} {st : List ByteArray} {t : Tok} (h : Chk (pv m i) st (m.drop i) []) (ht : m[i]? = some t) : ∃ st1, Stp (pv m i) t st st1 ∧ Chk (pv m (i + 1)) st1 (m.drop (i + 1)) [] := by
  obtain ⟨hlt, hx⟩ := List.getElem?_eq_some_iff.1 ht
  rw [List.drop_eq_getElem_cons hlt, hx] at h
  cases h with
  | cons h1 h2 => exact ⟨_, h1, by rw [pv_succ, ht]; exact h2⟩
theorem Chk.end_ {m : List Tok} {i : Nat} {st : List ByteArray} (h : Chk (pv m i) st (m.drop i) []) (hi : m.length ≤ i) : st = [] := by
  rw [List.drop_of_length_le hi] at h
  cases h
  rfl
theorem Stp.len {p : Option Tok} {t : Tok} {st st1 : List ByteArray} (h : Stp p t st st1) : st1.length ≤ st.length + 1 := by
  cases h <;> simp <;> omega
theorem BkAt.cells {b : Nat} {st : List ByteArray} {v : Value} {w W : World} (h : BkAt b st v w W) : W.cell? ⟨b, 0, none⟩ = some v ∧ W.frozen? ⟨b, 0, none⟩ = false := ⟨cell_of h.box 0, free_of h.box 0⟩
theorem BkAt.pushed {b k : Nat} {st : List ByteArray} {v v' : Value} {w W W' : World} (h : BkAt b st v w W) (hG : W.grownBy W' v.ownBlock) (hk : k < W.heap.size) (hne : v.ownBlock ≠ some k) (hb : k ≠ b) : (W'.setCell ⟨b, 0, none⟩ v').heap[k]? = W.heap[k]? :=
  (heap_set_other hb _).trans (hG.block k hk (fun e => hne e.symm))

theorem BkAt.cap {b n c : Nat} {A : Option Addr} {st : List ByteArray} {w W : World} (h : BkAt b st (.slice A n c) w W) : st.length ≤ c := by
  rcases h.own.2 with ⟨h1, h2⟩ | ⟨g, cap, cur, h1, h2, h3, h4, _⟩
  · omega
  · injection h1 with _ _ h9
    omega
theorem BkAt.grownBox {b : Nat} {st : List ByteArray} {v : Value} {w W W' : World} (h : BkAt b st v w W) (hG : W.grownBy W' v.ownBlock) : W'.heap[b]? = some (.cells #[v] 28) :=
  (hG.block b (heap_lt h.box) (fun e => by have := own_base h.own b e.symm; omega)).trans h.box
/-- A box that was made in the round, behind a push. -/
theorem BkAt.pushedBox {b : Nat} {st : List ByteArray} {v v' : Value} {w W W' : World} {o o2 : Obj} (h : BkAt b st v w W) (hG : ((W.alloc o).alloc o2).grownBy W' v.ownBlock) : (W'.setCell ⟨b, 0, none⟩ v').heap[W.heap.size]? = some o :=
  (heap_set_other (by show W.heap.size ≠ b; have := h.size; omega) _).trans ((hG.block W.heap.size (by simp; omega) (fun e => by have := own_lt h.own _ e.symm; omega)).trans (heap_alloc (heap_new W o) o2))
theorem BkAt.poppedBox {b : Nat} {st : List ByteArray} {v v' : Value} {w W : World} {o : Obj} (h : BkAt b st v w W) : ((W.alloc o).setCell ⟨b, 0, none⟩ v').heap[W.heap.size]? = some o :=
  (heap_set_other (by show W.heap.size ≠ b; have := h.size; omega) _).trans (heap_new W o)

end Go.Proofs.YtfnhjdehlikbaaaGreatDoor.Lx

