import Derived.Test.YtfnhjdehlikbaaaGreatDoorMC
set_option linter.unusedVariables false
set_option linter.unusedSimpArgs false
/- LexBlocks (8): the walk. -/
namespace Go.Proofs.YtfnhjdehlikbaaaGreatDoor.Lx
open Go.RowKit Go.Proofs.YtfnhjdehlikbaaaGreatDoorW.PrintWords

theorem raw_says3 (s : ByteArray) (hs : s.size ≤ 100000) : Aside0 (∀ W, Calls Tryz.prog 22 #[.string s] W fun e w' => ∃ A c, e = .returned (.tuple #[.slice A (rawF s).1.length c, .int .i64 (rawF s).2.1, .int .i64 (rawF s).2.2]) ∧ (rawF s).1.length ≤ c ∧ SrcC A (rawF s).1 w' ∧ Below W.heap.size W w') :=
  ⟨fun W => (rawF_any s W (by omega)).mono fun e w' ⟨v, he, hr, hb⟩ => by
    obtain ⟨A, c, rfl, hc, hs⟩ := srcC_reads hr
    exact ⟨A, c, he, hc, hs, hb⟩⟩

theorem wp_same9 {P : Program} {c c' : Code} {Q : Exit → Act → World → Prop} {a : Act} {w : World} (h : c = c') (hw : c'.wp P Q a w) : c.wp P Q a w := h ▸ hw
theorem ba_eq {x : ByteArray} {l : List UInt8} (h : x.toList = l) : x = ⟨l.toArray⟩ := by
  rw [ByteArray.toList_eq] at h
  exact ByteArray.ext (by rw [← h])
theorem closer_not {x : ByteArray} (h : x ∉ closers) : ¬ x.toList = [41] ∧ ¬ x.toList = [125] ∧ ¬ x.toList = [105, 110] ∧ ¬ x.toList = [119, 105, 116, 104] :=
  ⟨fun e => h (by rw [ba_eq e]; simp [closers]), fun e => h (by rw [ba_eq e]; simp [closers]), fun e => h (by rw [ba_eq e]; simp [closers]), fun e => h (by rw [ba_eq e]; simp [closers])⟩
theorem openers_closers : ∀ x ∈ openers, ¬ x ∈ closers := by
  intro x hx
  simp only [openers, List.mem_cons, List.not_mem_nil, or_false] at hx
  rcases hx with rfl | rfl | rfl | rfl | rfl | rfl <;> simp [closers]
theorem opener_not {x : ByteArray} (h : x ∈ openers) : ¬ x.toList = [41] ∧ ¬ x.toList = [125] ∧ ¬ x.toList = [105, 110] ∧ ¬ x.toList = [119, 105, 116, 104] := closer_not (openers_closers x h)
theorem among_true {l : List ByteArray} {x : ByteArray} (h : x ∈ l) : among l x = true := by
  unfold among
  exact List.any_eq_true.2 ⟨x, h, by simp⟩
theorem among_false {l : List ByteArray} {x : ByteArray} (h : x ∉ l) : among l x = false := by
  unfold among
  rw [List.any_eq_false]
  intro y hy he
  rw [beq_iff_eq] at he
  exact h (by rw [show x = y from ByteArray.ext (by rw [ByteArray.toList_eq, ByteArray.toList_eq] at he; exact Array.toList_inj.1 he)]; exact hy)
/-- Behind a 'with' there is an opening of a block. -/
theorem Chk.with_ {m : List Tok} {i : Nat} {st : List ByteArray} {t : Tok} (h : Chk (pv m (i + 1)) st (m.drop (i + 1)) []) (ht : m[i]? = some t) (hx : t.text = wWith) (hk : t.kind ≤ 4) (hl : ∃ q, m.getLast? = some q ∧ q.kind = 7) :
    i + 1 < m.length ∧ ∃ pn px pa pl pc, m[i + 1]? = some ⟨5, pn, px, pa, pl, pc⟩ := by
  rw [pv_succ, ht] at h
  by_cases hlt : i + 1 < m.length
  · rw [List.drop_eq_getElem_cons hlt] at h
    refine ⟨hlt, ?_⟩
    rw [List.getElem?_eq_getElem hlt]
    generalize m[i + 1] = u at h ⊢
    obtain ⟨uk, un, ux, ua, ul, uc⟩ := u
    have hno : ¬ NoW (some t) := fun ⟨q, hq, hq2⟩ => by injection hq with hq; rw [← hq] at hq2; exact hq2 hx
    cases h with
    | cons h1 h2 =>
      cases h1 with
      | opn _ ek _ _ => simp only at ek; subst ek; exact ⟨_, _, _, _, _, rfl⟩
      | cls _ _ hn _ => exact absurd hn hno
      | nxt _ q _ hq _ _ hw _ => injection hq with hq; rw [← hq] at hw; exact absurd hx hw
      | shut _ _ _ hn _ => exact absurd hn hno
      | wit _ _ _ _ hn _ _ => exact absurd hn hno
      | push _ _ _ hn _ => exact absurd hn hno
      | raw _ _ _ hn _ _ => exact absurd hn hno
  · exfalso
    obtain ⟨hi, he⟩ := List.getElem?_eq_some_iff.1 ht
    obtain ⟨q, hq, hq7⟩ := hl
    rw [List.getLast?_eq_getElem?, show m.length - 1 = i by omega, ht] at hq
    injection hq with hq
    rw [← hq] at hq7
    omega

set_option maxRecDepth 100000 in
set_option maxHeartbeats 16000000 in
theorem lawBlocks_any (A0 : Option Addr) (n0 c0 : Nat) (w : World) (h0 : BytesAt A0 n0 c0 w) (ht : Pow w) :
    Calls Tryz.prog 8 #[.slice A0 n0 c0] w fun e w' => e = .returned (.bool true) ∧ Below w.heap.size w w' := by
  have HT := Aside0.mk ht
  have HO1 := Aside0.mk (of_any A0 n0 c0 w h0)
  have HWR := Aside0.mk (fun b W (h : StoreAt W.heap.size b 0 W) => written_any b 0 60 W h (by omega) (by omega) (by omega))
  have HAW := Aside0.mk (fun W (hp : Pow W) => awake_any W hp)
  have hmm := @run_makeMap Tryz.prog
  obtain ⟨i0, info9, iz0, iz1, iz2⟩ := info_parts info9
  have HI := Aside0.mk info9
  have HZ0 := Aside0.mk iz0
  have HZ1 := Aside0.mk iz1
  have HZ2 := Aside0.mk iz2
  clear info9 iz0 iz1 iz2
  clear ht h0
  go_enter Tryz.func8, Tryz.ntmps8
  go_upto_region 2 with (first | (go_at_call 15; (with_reducible refine HO1.out.mono ?_); rintro e w1 ⟨b1, rfl, hb1, hs1, hw1⟩; have HX1 := Aside0.mk hs1; have HW1 := Aside0.mk hw1; have HG1 := Aside0.mk hb1; clear hb1 hs1 hw1) | (go_at_call 21; (with_reducible refine (HWR.out _ _ HX1.out).mono ?_); rintro e w2 ⟨s, rfl, hs, _, hk⟩; have HW2 := Aside0.mk (below_keep HW1.out hk HG1.out HW1.out.size); clear hk))
  clear HO1 HWR HX1 HW1 HG1
  have HR := raw_says3 s (by omega)
  have HTK := tok_says2 s (by omega)
  have hgood := (rawOk_all s).1
  have hlen := (rawOk_all s).2
  have hn2 := tokLen s
  have hlaw : (rawF s).2.2 = 0 → (tokF s).2.2 = 0 → Blocks (tokF s).1 (rawF s).1 := fun h1 h2 => by
    unfold tokF at h2 ⊢
    rw [if_neg (by rw [h1]; simp)] at h2 ⊢
    by_cases h3 : (layF (rawF s).1).2.2 = 0
    · rw [if_pos h3]
      exact blocks_law hgood h3
    · rw [if_neg h3] at h2
      split at h2
      · exact absurd h2 h3
      · exact absurd h2 h3
  have herr := fun h1 h2 => tok_err (s := s) h1 h2
  have hsame : (rawF s).2.2 ≠ 0 → (tokF s).2.2 = (rawF s).2.2 := fun h => by unfold tokF; rw [if_pos h]
  generalize rawF s = P at HR hgood hlen hlaw herr hsame
  generalize tokF s = Q at HTK hn2 hlaw herr hsame
  obtain ⟨l, at1, e1⟩ := P
  obtain ⟨m, at2, e2⟩ := Q
  simp only at HR HTK hgood hlen hlaw herr hsame hn2
  by_cases he1 : e1 = 0
  · subst he1
    clear hsame
    by_cases he2 : e2 = 0
    · subst he2
      clear herr
      have hb := hlaw rfl rfl
      clear hlaw hgood
      obtain ⟨t0, hh, hk0⟩ := hb.head
      obtain ⟨m', rfl⟩ : ∃ m', m = t0 :: m' := by
        cases m with
        | nil => cases hh
        | cons a m' => injection hh with hh; subst hh; exact ⟨m', rfl⟩
      have hPL : ∀ g c W, SrcC (some ⟨g, 0, none⟩) (t0 :: m') W → Calls Tryz.prog 30 #[.slice (some ⟨g, 0, none⟩) (t0 :: m').length c] W fun e w' => ∃ A c', e = .returned (.slice A l.length c') ∧ l.length ≤ c' ∧ SrcC A l w' ∧ Below W.heap.size W w' := fun g c W hs => by
        have := plain_any t0 m' g c W (by omega) hs (by omega)
        rwa [hb.raw] at this
      have HPL := Aside0.mk hPL
      have HEQ := Aside0.mk (fun A0 A1 c0 c1 W h0 hc0 h1 hc1 => equal_any l (by omega) A0 A1 c0 c1 W h0 hc0 h1 hc1)
      have hne : 0 < (t0 :: m').length := by simp
      have HNE : Aside0 (∀ A W, SrcC A (t0 :: m') W → ∃ g, A = some ⟨g, 0, none⟩) := ⟨fun A W h => by obtain ⟨g, hg, _⟩ := h 0 t0 rfl; exact ⟨g, hg⟩⟩
      have HBL := Aside0.mk hb
      clear hb hPL hh hk0
      generalize t0 :: m' = m at *
      obtain ⟨n, hn⟩ : ∃ n, m.length = n := ⟨_, rfl⟩
      rw [hn] at HPL HTK hn2 hne
      have HN := Aside0.mk hn
      clear hn
      obtain ⟨q, hq⟩ : ∃ q, l.length = q := ⟨_, rfl⟩
      rw [hq] at HPL HEQ HR hlen
      clear hq
      go_upto_region 13 with (first
        | (go_at_call 22; (with_reducible refine (HR.out _).mono ?_); rintro e w3 ⟨A3, c3, rfl, hc3, hsr, hb⟩; have HSL := Aside0.mk hsr; have HW3 := Aside0.mk (HW2.out.trans (hb.mono HW2.out.size)); clear hsr hb)
        | (go_at_call 19; (with_reducible refine (HTK.out _ (HT.out.on HW3.out)).mono ?_); rintro e w4 ⟨A4, c4, rfl, hc4, hsr, hb⟩; have HSM := Aside0.mk hsr; have HSL := Aside0.mk (HSL.out.below hb); have HW4 := Aside0.mk (HW3.out.trans (hb.mono HW3.out.size)); obtain ⟨g, rfl⟩ := HNE.out _ _ hsr; clear hsr hb)
        | (go_at_call 30; (with_reducible refine (HPL.out _ _ _ HSM.out).mono ?_); rintro e w5 ⟨A5, c5, rfl, hc5, hsr, hb⟩; have HSP := Aside0.mk hsr; have HSM := Aside0.mk (HSM.out.below hb); have HSL := Aside0.mk (HSL.out.below hb); have HW5 := Aside0.mk (HW4.out.trans (hb.mono HW4.out.size)); clear hsr hb)
        | (go_at_call 29; (with_reducible refine (HEQ.out _ _ _ _ _ HSP.out hc5 HSL.out hc3).mono ?_); rintro e w6 ⟨rfl, hb⟩; have HSM := Aside0.mk (HSM.out.below hb); have HW6 := Aside0.mk (HW5.out.trans (hb.mono HW5.out.size)); have hm1 : ((w6.alloc (.cells #[.slice none 0 0] 28)).alloc (.map #[] 0)).heap[w6.heap.size + 1]? = some (.map #[] 0) := heap_new' _ _ _ (by simp); have hu1 := opens_1 hm1; have hu2 := opens_12 hm1; have hu3 := opens_123 hm1; clear hm1; clear hb))
      have HB0 := Aside0.mk (BkAt.start HW6.out (.map #[] 0) (.map #[sent ⟨#[41]⟩ ⟨#[40]⟩ 0] 1) (.map #[sent ⟨#[41]⟩ ⟨#[40]⟩ 0, sent ⟨#[125]⟩ ⟨#[123]⟩ 1] 2))
      clear hu1 hu2 hu3 hmm HPL HEQ HR HTK HSP HSL HW2 HW3 HW4 HW5
      generalize ((((w6.alloc (.cells #[.slice none 0 0] 28)).alloc (.map #[] 0)).putObj (w6.heap.size + 1) (.map #[sent ⟨#[41]⟩ ⟨#[40]⟩ 0] 1)).putObj (w6.heap.size + 1) (.map #[sent ⟨#[41]⟩ ⟨#[40]⟩ 0, sent ⟨#[125]⟩ ⟨#[123]⟩ 1] 2)).putObj (w6.heap.size + 1) opensObj = W7 at HB0 ⊢
      have hgb : g < w6.heap.size := by
        obtain ⟨t1, ht1⟩ : ∃ t1, m[0]? = some t1 := ⟨_, List.getElem?_eq_getElem (by rw [HN.out]; exact hne)⟩
        obtain ⟨g', hg', q0, _⟩ := HSM.out 0 t1 ht1
        injection hg' with hg'
        injection hg' with hg'
        subst hg'
        exact World.block_lt_of_cell? _ _ q0
      have hb6 := HW6.out.size
      have HCH : Aside0 (Chk (pv m 0) [] (m.drop 0) []) := ⟨HBL.out.chk⟩
      have HBB := Aside0.mk hb6
      generalize hbz : w6.heap.size = b at HB0 hgb HBB hb6 ⊢
      have HBZ := Aside0.mk hbz
      clear hbz
      go_wp2
      go_loopg [79] n (fun f t79 wr => ∃ (i : Nat) (st : List ByteArray) (v : Value), t79 = .int .i64 (i : Int) ∧ i + f = n ∧ st.length ≤ i ∧ Aside0 (BkAt b st v w6 wr ∧ Chk (pv m i) st (m.drop i) []))
      case atStart => exact ⟨0, [], _, rfl, by omega, by simp, ⟨HB0.out, HCH.out⟩⟩
      case round =>
        clear HB0 HCH
        obtain ⟨i, st, v, rfl, hif, hsti, hA⟩ := hrel
        obtain ⟨A, c, rfl⟩ := hA.out.1.form
        have HM := Aside0.mk hA.out.1
        have HC := Aside0.mk hA.out.2
        clear hA
        by_cases hi : i < n
        · obtain ⟨f, rfl⟩ : ∃ f, gk = f + 1 := ⟨gk - 1, by omega⟩
          have hlt : i < m.length := by rw [HN.out]; exact hi
          have hti := List.getElem?_eq_getElem hlt
          generalize m[i] = t at hti
          have HTI := Aside0.mk hti
          obtain ⟨st1, hst, hch⟩ := HC.out.at_ hti
          have HST := Aside0.mk hst
          have HC1 := Aside0.mk hch
          obtain ⟨tk, tn, tx, ta, tl, tc⟩ := t
          have hin : (i : Int) < (n : Int) := by omega
          have hnext : tx = wWith → tk ≤ 4 → (i : Int) + 1 < (n : Int) ∧ ∃ pn px pa pl pc, m[i + 1]? = some ⟨5, pn, px, pa, pl, pc⟩ := fun hx hk => by
            obtain ⟨h1, h2⟩ := hch.with_ hti hx hk HBL.out.last
            exact ⟨by have := HN.out; omega, h2⟩
          clear hlt hti HC
          refine wp_same9 (c' := bkBody) (by kernel_rfl) ?_
          have hl1 := hst.len
          cases hst with
          | opn _ ek hq ex =>
            simp only at ek ex
            subst ek ex
            by_cases h0 : i = 0
            · refine bk_opn0 (tk := 0) (tx := ⟨#[]⟩) hn2 hin (by omega) HBZ HSM HTI ⟨rfl⟩ HM h0 HI HZ0 HZ1 HZ2 ⟨fun x13 x14 x15 x79 x80 x81 x82 x83 x84 x85 x86 x87 x88 x89 x90 x91 x92 x93 x94 x95 x96 x97 x98 x99 x100 x101 x102 x103 x104 x105 x106 x107 x108 x109 x110 x111 x112 x113 x114 x115 x116 x117 x118 x119 x120 x121 x122 x123 x124 x125 x126 x127 x128 x129 x130 x131 x132 x133 x134 x135 x136 x137 x138 x139 x140 x141 x142 x143 x144 x145 x146 x147 x148 x149 x150 x151 x152 x153 x154 x155 x156 x157 x158 x159 x160 x161 x162 x163 x164 x165 x166 x167 x168 x169 x170 x171 x172 x173 x174 x175 x176 x177 x178 x179 x180 x181 x182 x183 x184 x185 x186 x187 x188 x189 x190 x191 x192 x193 x194 x195 x196 x197 x198 x199 x200 x201 x202 x203 x204 x205 x206 x207 x208 x209 x210 x211 x212 x213 x214 x215 x216 x217 W h => ?_⟩
              obtain ⟨rfl, v2, h2⟩ := h
              go_wp2
              go_roundg f
              case measure => omega
              case rel => exact ⟨i + 1, _, v2, by go_num, by omega, (by (try rw [List.length_append]); (try simp only [List.length_singleton]); omega), ⟨h2.out, HC1.out⟩⟩
            · obtain ⟨j, rfl⟩ : ∃ j, i = j + 1 := ⟨i - 1, by omega⟩
              rw [pv_succ] at hq
              have hjl : j < m.length := by have := HN.out; omega
              have hj := List.getElem?_eq_getElem hjl
              generalize m[j] = q at hj
              have hqx := hq q hj
              obtain ⟨pk, pn, px, pa, pl, pc⟩ := q
              simp only at hqx
              subst hqx
              have HPV := Aside0.mk hj
              clear hq hj hjl
              refine bk_opn (tk := 0) (tx := ⟨#[]⟩) hn2 hin (by omega) HBZ HSM HTI ⟨rfl⟩ HM rfl HPV HI HZ0 HZ1 HZ2 ⟨fun x13 x14 x15 x79 x80 x81 x82 x83 x84 x85 x86 x87 x88 x89 x90 x91 x92 x93 x94 x95 x96 x97 x98 x99 x100 x101 x102 x103 x104 x105 x106 x107 x108 x109 x110 x111 x112 x113 x114 x115 x116 x117 x118 x119 x120 x121 x122 x123 x124 x125 x126 x127 x128 x129 x130 x131 x132 x133 x134 x135 x136 x137 x138 x139 x140 x141 x142 x143 x144 x145 x146 x147 x148 x149 x150 x151 x152 x153 x154 x155 x156 x157 x158 x159 x160 x161 x162 x163 x164 x165 x166 x167 x168 x169 x170 x171 x172 x173 x174 x175 x176 x177 x178 x179 x180 x181 x182 x183 x184 x185 x186 x187 x188 x189 x190 x191 x192 x193 x194 x195 x196 x197 x198 x199 x200 x201 x202 x203 x204 x205 x206 x207 x208 x209 x210 x211 x212 x213 x214 x215 x216 x217 W h => ?_⟩
              obtain ⟨rfl, v2, h2⟩ := h
              go_wp2
              go_roundg f
              case measure => omega
              case rel => exact ⟨j + 1 + 1, _, v2, by go_num, by omega, (by (try rw [List.length_append]); (try simp only [List.length_singleton]); omega), ⟨h2.out, HC1.out⟩⟩
          | cls _ ek hq ex =>
            simp only at ek ex
            subst ek ex
            rw [List.length_append] at hsti
            simp only [List.length_singleton] at hsti
            refine bk_cls (tk := 0) (tx := ⟨#[]⟩) hn2 hin (by omega) HBZ HSM HTI ⟨rfl⟩ HM ⟨fun x13 x14 x15 x79 x80 x81 x82 x83 x84 x85 x86 x87 x88 x89 x90 x91 x92 x93 x94 x95 x96 x97 x98 x99 x100 x101 x102 x103 x104 x105 x106 x107 x108 x109 x110 x111 x112 x113 x114 x115 x116 x117 x118 x119 x120 x121 x122 x123 x124 x125 x126 x127 x128 x129 x130 x131 x132 x133 x134 x135 x136 x137 x138 x139 x140 x141 x142 x143 x144 x145 x146 x147 x148 x149 x150 x151 x152 x153 x154 x155 x156 x157 x158 x159 x160 x161 x162 x163 x164 x165 x166 x167 x168 x169 x170 x171 x172 x173 x174 x175 x176 x177 x178 x179 x180 x181 x182 x183 x184 x185 x186 x187 x188 x189 x190 x191 x192 x193 x194 x195 x196 x197 x198 x199 x200 x201 x202 x203 x204 x205 x206 x207 x208 x209 x210 x211 x212 x213 x214 x215 x216 x217 W h => ?_⟩
            obtain ⟨rfl, v2, h2⟩ := h
            go_wp2
            go_roundg f
            case measure => omega
            case rel => exact ⟨i + 1, _, v2, by go_num, by omega, (by (try rw [List.length_append]); (try simp only [List.length_singleton]); omega), ⟨h2.out, HC1.out⟩⟩
          | nxt _ q ek hq k5 k6 hw ex =>
            simp only at ek ex
            subst ek ex
            rw [List.length_append] at hsti
            simp only [List.length_singleton] at hsti
            obtain ⟨j, rfl⟩ : ∃ j, i = j + 1 := by
              cases i with
              | zero => cases hq
              | succ j => exact ⟨j, rfl⟩
            rw [pv_succ] at hq
            obtain ⟨pk, pn, px, pa, pl, pc⟩ := q
            simp only at k5 k6
            refine bk_nxt (tk := 0) (tx := ⟨#[]⟩) hn2 hin (by omega) HBZ HSM HTI ⟨rfl⟩ HM rfl ⟨hq⟩ (by rw [beq_eq_false_iff_ne]; exact k5) (by rw [beq_eq_false_iff_ne]; exact k6) ⟨fun x13 x14 x15 x79 x80 x81 x82 x83 x84 x85 x86 x87 x88 x89 x90 x91 x92 x93 x94 x95 x96 x97 x98 x99 x100 x101 x102 x103 x104 x105 x106 x107 x108 x109 x110 x111 x112 x113 x114 x115 x116 x117 x118 x119 x120 x121 x122 x123 x124 x125 x126 x127 x128 x129 x130 x131 x132 x133 x134 x135 x136 x137 x138 x139 x140 x141 x142 x143 x144 x145 x146 x147 x148 x149 x150 x151 x152 x153 x154 x155 x156 x157 x158 x159 x160 x161 x162 x163 x164 x165 x166 x167 x168 x169 x170 x171 x172 x173 x174 x175 x176 x177 x178 x179 x180 x181 x182 x183 x184 x185 x186 x187 x188 x189 x190 x191 x192 x193 x194 x195 x196 x197 x198 x199 x200 x201 x202 x203 x204 x205 x206 x207 x208 x209 x210 x211 x212 x213 x214 x215 x216 x217 W h => ?_⟩
            obtain ⟨rfl, v2, h2⟩ := h
            go_wp2
            go_roundg f
            case measure => omega
            case rel => exact ⟨j + 1 + 1, _, v2, by go_num, by omega, (by (try rw [List.length_append]); (try simp only [List.length_singleton]); omega), ⟨h2.out, HC1.out⟩⟩
          | shut _ k1 k4 hq hx =>
            simp only at k1 k4 hx HM
            rw [List.length_append] at hsti
            simp only [List.length_singleton] at hsti
            simp only [closers3, List.mem_cons, List.not_mem_nil, or_false] at hx
            rcases hx with rfl | rfl | rfl
            · clear hq
              rw [show opOf ⟨#[41]⟩ = ⟨#[40]⟩ from by decide +kernel] at HM
              refine bk_sh1 (tx := ⟨#[]⟩) hn2 hin (by omega) HBZ HSM HTI ⟨rfl⟩ HM k1 k4 ⟨fun x13 x14 x15 x79 x80 x81 x82 x83 x84 x85 x86 x87 x88 x89 x90 x91 x92 x93 x94 x95 x96 x97 x98 x99 x100 x101 x102 x103 x104 x105 x106 x107 x108 x109 x110 x111 x112 x113 x114 x115 x116 x117 x118 x119 x120 x121 x122 x123 x124 x125 x126 x127 x128 x129 x130 x131 x132 x133 x134 x135 x136 x137 x138 x139 x140 x141 x142 x143 x144 x145 x146 x147 x148 x149 x150 x151 x152 x153 x154 x155 x156 x157 x158 x159 x160 x161 x162 x163 x164 x165 x166 x167 x168 x169 x170 x171 x172 x173 x174 x175 x176 x177 x178 x179 x180 x181 x182 x183 x184 x185 x186 x187 x188 x189 x190 x191 x192 x193 x194 x195 x196 x197 x198 x199 x200 x201 x202 x203 x204 x205 x206 x207 x208 x209 x210 x211 x212 x213 x214 x215 x216 x217 W h => ?_⟩
              obtain ⟨rfl, v2, h2⟩ := h
              go_wp2
              go_roundg f
              case measure => omega
              case rel => exact ⟨i + 1, _, v2, by go_num, by omega, (by (try rw [List.length_append]); (try simp only [List.length_singleton]); omega), ⟨h2.out, HC1.out⟩⟩
            · clear hq
              rw [show opOf ⟨#[125]⟩ = ⟨#[123]⟩ from by decide +kernel] at HM
              refine bk_sh2 (tx := ⟨#[]⟩) hn2 hin (by omega) HBZ HSM HTI ⟨rfl⟩ HM k1 k4 ⟨fun x13 x14 x15 x79 x80 x81 x82 x83 x84 x85 x86 x87 x88 x89 x90 x91 x92 x93 x94 x95 x96 x97 x98 x99 x100 x101 x102 x103 x104 x105 x106 x107 x108 x109 x110 x111 x112 x113 x114 x115 x116 x117 x118 x119 x120 x121 x122 x123 x124 x125 x126 x127 x128 x129 x130 x131 x132 x133 x134 x135 x136 x137 x138 x139 x140 x141 x142 x143 x144 x145 x146 x147 x148 x149 x150 x151 x152 x153 x154 x155 x156 x157 x158 x159 x160 x161 x162 x163 x164 x165 x166 x167 x168 x169 x170 x171 x172 x173 x174 x175 x176 x177 x178 x179 x180 x181 x182 x183 x184 x185 x186 x187 x188 x189 x190 x191 x192 x193 x194 x195 x196 x197 x198 x199 x200 x201 x202 x203 x204 x205 x206 x207 x208 x209 x210 x211 x212 x213 x214 x215 x216 x217 W h => ?_⟩
              obtain ⟨rfl, v2, h2⟩ := h
              go_wp2
              go_roundg f
              case measure => omega
              case rel => exact ⟨i + 1, _, v2, by go_num, by omega, (by (try rw [List.length_append]); (try simp only [List.length_singleton]); omega), ⟨h2.out, HC1.out⟩⟩
            · clear hq
              rw [show opOf ⟨#[105, 110]⟩ = ⟨#[108, 101, 116]⟩ from by decide +kernel] at HM
              refine bk_sh3 (tx := ⟨#[]⟩) hn2 hin (by omega) HBZ HSM HTI ⟨rfl⟩ HM k1 k4 ⟨fun x13 x14 x15 x79 x80 x81 x82 x83 x84 x85 x86 x87 x88 x89 x90 x91 x92 x93 x94 x95 x96 x97 x98 x99 x100 x101 x102 x103 x104 x105 x106 x107 x108 x109 x110 x111 x112 x113 x114 x115 x116 x117 x118 x119 x120 x121 x122 x123 x124 x125 x126 x127 x128 x129 x130 x131 x132 x133 x134 x135 x136 x137 x138 x139 x140 x141 x142 x143 x144 x145 x146 x147 x148 x149 x150 x151 x152 x153 x154 x155 x156 x157 x158 x159 x160 x161 x162 x163 x164 x165 x166 x167 x168 x169 x170 x171 x172 x173 x174 x175 x176 x177 x178 x179 x180 x181 x182 x183 x184 x185 x186 x187 x188 x189 x190 x191 x192 x193 x194 x195 x196 x197 x198 x199 x200 x201 x202 x203 x204 x205 x206 x207 x208 x209 x210 x211 x212 x213 x214 x215 x216 x217 W h => ?_⟩
              obtain ⟨rfl, v2, h2⟩ := h
              go_wp2
              go_roundg f
              case measure => omega
              case rel => exact ⟨i + 1, _, v2, by go_num, by omega, (by (try rw [List.length_append]); (try simp only [List.length_singleton]); omega), ⟨h2.out, HC1.out⟩⟩
          | wit _ o k1 k4 hq hx ho =>
            simp only at k1 k4 hx
            obtain ⟨hin1, pn, px, pa, pl, pc, hnx⟩ := hnext hx k4
            subst hx
            rw [List.length_append] at hsti
            simp only [List.length_singleton] at hsti
            simp only [heads3, List.mem_cons, List.not_mem_nil, or_false] at ho
            rcases ho with rfl | rfl | rfl
            · clear hq
              refine bk_wi1 (tx := ⟨#[]⟩) hn2 hin (by omega) HBZ HSM HTI ⟨rfl⟩ HM k1 k4 hin1 ⟨hnx⟩ ⟨fun x13 x14 x15 x79 x80 x81 x82 x83 x84 x85 x86 x87 x88 x89 x90 x91 x92 x93 x94 x95 x96 x97 x98 x99 x100 x101 x102 x103 x104 x105 x106 x107 x108 x109 x110 x111 x112 x113 x114 x115 x116 x117 x118 x119 x120 x121 x122 x123 x124 x125 x126 x127 x128 x129 x130 x131 x132 x133 x134 x135 x136 x137 x138 x139 x140 x141 x142 x143 x144 x145 x146 x147 x148 x149 x150 x151 x152 x153 x154 x155 x156 x157 x158 x159 x160 x161 x162 x163 x164 x165 x166 x167 x168 x169 x170 x171 x172 x173 x174 x175 x176 x177 x178 x179 x180 x181 x182 x183 x184 x185 x186 x187 x188 x189 x190 x191 x192 x193 x194 x195 x196 x197 x198 x199 x200 x201 x202 x203 x204 x205 x206 x207 x208 x209 x210 x211 x212 x213 x214 x215 x216 x217 W h => ?_⟩
              obtain ⟨rfl, v2, h2⟩ := h
              go_wp2
              go_roundg f
              case measure => omega
              case rel => exact ⟨i + 1, _, v2, by go_num, by omega, (by (try rw [List.length_append]); (try simp only [List.length_singleton]); omega), ⟨h2.out, HC1.out⟩⟩
            · clear hq
              refine bk_wi2 (tx := ⟨#[]⟩) hn2 hin (by omega) HBZ HSM HTI ⟨rfl⟩ HM k1 k4 hin1 ⟨hnx⟩ ⟨fun x13 x14 x15 x79 x80 x81 x82 x83 x84 x85 x86 x87 x88 x89 x90 x91 x92 x93 x94 x95 x96 x97 x98 x99 x100 x101 x102 x103 x104 x105 x106 x107 x108 x109 x110 x111 x112 x113 x114 x115 x116 x117 x118 x119 x120 x121 x122 x123 x124 x125 x126 x127 x128 x129 x130 x131 x132 x133 x134 x135 x136 x137 x138 x139 x140 x141 x142 x143 x144 x145 x146 x147 x148 x149 x150 x151 x152 x153 x154 x155 x156 x157 x158 x159 x160 x161 x162 x163 x164 x165 x166 x167 x168 x169 x170 x171 x172 x173 x174 x175 x176 x177 x178 x179 x180 x181 x182 x183 x184 x185 x186 x187 x188 x189 x190 x191 x192 x193 x194 x195 x196 x197 x198 x199 x200 x201 x202 x203 x204 x205 x206 x207 x208 x209 x210 x211 x212 x213 x214 x215 x216 x217 W h => ?_⟩
              obtain ⟨rfl, v2, h2⟩ := h
              go_wp2
              go_roundg f
              case measure => omega
              case rel => exact ⟨i + 1, _, v2, by go_num, by omega, (by (try rw [List.length_append]); (try simp only [List.length_singleton]); omega), ⟨h2.out, HC1.out⟩⟩
            · clear hq
              refine bk_wi3 (tx := ⟨#[]⟩) hn2 hin (by omega) HBZ HSM HTI ⟨rfl⟩ HM k1 k4 hin1 ⟨hnx⟩ ⟨fun x13 x14 x15 x79 x80 x81 x82 x83 x84 x85 x86 x87 x88 x89 x90 x91 x92 x93 x94 x95 x96 x97 x98 x99 x100 x101 x102 x103 x104 x105 x106 x107 x108 x109 x110 x111 x112 x113 x114 x115 x116 x117 x118 x119 x120 x121 x122 x123 x124 x125 x126 x127 x128 x129 x130 x131 x132 x133 x134 x135 x136 x137 x138 x139 x140 x141 x142 x143 x144 x145 x146 x147 x148 x149 x150 x151 x152 x153 x154 x155 x156 x157 x158 x159 x160 x161 x162 x163 x164 x165 x166 x167 x168 x169 x170 x171 x172 x173 x174 x175 x176 x177 x178 x179 x180 x181 x182 x183 x184 x185 x186 x187 x188 x189 x190 x191 x192 x193 x194 x195 x196 x197 x198 x199 x200 x201 x202 x203 x204 x205 x206 x207 x208 x209 x210 x211 x212 x213 x214 x215 x216 x217 W h => ?_⟩
              obtain ⟨rfl, v2, h2⟩ := h
              go_wp2
              go_roundg f
              case measure => omega
              case rel => exact ⟨i + 1, _, v2, by go_num, by omega, (by (try rw [List.length_append]); (try simp only [List.length_singleton]); omega), ⟨h2.out, HC1.out⟩⟩
          | push _ k1 k4 hq hx =>
            simp only at k1 k4 hx
            obtain ⟨c1, c2, c3, c4⟩ := opener_not hx
            refine bk_push hn2 hin (by omega) HBZ HSM HTI ⟨rfl⟩ HM k1 k4 c1 c2 c3 c4 (among_true hx) HI HZ0 HZ1 HZ2 ⟨fun x13 x14 x15 x79 x80 x81 x82 x83 x84 x85 x86 x87 x88 x89 x90 x91 x92 x93 x94 x95 x96 x97 x98 x99 x100 x101 x102 x103 x104 x105 x106 x107 x108 x109 x110 x111 x112 x113 x114 x115 x116 x117 x118 x119 x120 x121 x122 x123 x124 x125 x126 x127 x128 x129 x130 x131 x132 x133 x134 x135 x136 x137 x138 x139 x140 x141 x142 x143 x144 x145 x146 x147 x148 x149 x150 x151 x152 x153 x154 x155 x156 x157 x158 x159 x160 x161 x162 x163 x164 x165 x166 x167 x168 x169 x170 x171 x172 x173 x174 x175 x176 x177 x178 x179 x180 x181 x182 x183 x184 x185 x186 x187 x188 x189 x190 x191 x192 x193 x194 x195 x196 x197 x198 x199 x200 x201 x202 x203 x204 x205 x206 x207 x208 x209 x210 x211 x212 x213 x214 x215 x216 x217 W h => ?_⟩
            obtain ⟨rfl, v2, h2⟩ := h
            go_wp2
            go_roundg f
            case measure => omega
            case rel => exact ⟨i + 1, _, v2, by go_num, by omega, (by (try rw [List.length_append]); (try simp only [List.length_singleton]); omega), ⟨h2.out, HC1.out⟩⟩
          | raw _ k1 k4 hq hx ho =>
            simp only at k1 k4 hx ho
            obtain ⟨c1, c2, c3, c4⟩ := closer_not hx
            refine bk_raw hn2 hin (by omega) HBZ HSM HTI ⟨rfl⟩ HM k1 k4 c1 c2 c3 c4 (among_false ho) ⟨fun x13 x14 x15 x79 x80 x81 x82 x83 x84 x85 x86 x87 x88 x89 x90 x91 x92 x93 x94 x95 x96 x97 x98 x99 x100 x101 x102 x103 x104 x105 x106 x107 x108 x109 x110 x111 x112 x113 x114 x115 x116 x117 x118 x119 x120 x121 x122 x123 x124 x125 x126 x127 x128 x129 x130 x131 x132 x133 x134 x135 x136 x137 x138 x139 x140 x141 x142 x143 x144 x145 x146 x147 x148 x149 x150 x151 x152 x153 x154 x155 x156 x157 x158 x159 x160 x161 x162 x163 x164 x165 x166 x167 x168 x169 x170 x171 x172 x173 x174 x175 x176 x177 x178 x179 x180 x181 x182 x183 x184 x185 x186 x187 x188 x189 x190 x191 x192 x193 x194 x195 x196 x197 x198 x199 x200 x201 x202 x203 x204 x205 x206 x207 x208 x209 x210 x211 x212 x213 x214 x215 x216 x217 W h => ?_⟩
            obtain ⟨rfl, v2, h2⟩ := h
            go_wp2
            go_roundg f
            case measure => omega
            case rel => exact ⟨i + 1, _, v2, by go_num, by omega, (by (try rw [List.length_append]); (try simp only [List.length_singleton]); omega), ⟨h2.out, HC1.out⟩⟩
        · obtain rfl : n = i := by omega
          have hst : st = [] := HC.out.end_ (by rw [HN.out]; exact Nat.le_refl _)
          subst hst
          obtain ⟨cb, fb⟩ := HM.out.cells
          obtain ⟨⟨hk, hq1, hx1, ha1, hl1, hc1⟩, hh0, hh5⟩ := HBL.out.head
          obtain ⟨⟨lk, lq1, lx1, la1, ll1, lc1⟩, hl0, hl7⟩ := HBL.out.last
          simp only at hh5 hl7
          subst hh5 hl7
          rw [List.head?_eq_getElem?] at hh0
          rw [List.getLast?_eq_getElem?, HN.out] at hl0
          have hn1 : (1 : Int) < (n : Int) := by
            rcases Nat.lt_or_ge 1 n with h | h
            · omega
            · exfalso
              obtain rfl : n = 1 := by omega
              rw [hh0] at hl0
              injection hl0 with hl0
              injection hl0 with hl0
              omega
          have hsm := HSM.out.below (by rw [HBZ.out]; exact HM.out.below)
          obtain ⟨g1, hg1, p0, _⟩ := hsm 0 _ hh0
          injection hg1 with hg1
          injection hg1 with hg1
          subst hg1
          obtain ⟨g2, hg2, r0, _⟩ := hsm (n - 1) _ hl0
          injection hg2 with hg2
          injection hg2 with hg2
          subst hg2
          simp only [Nat.zero_mul] at p0
          obtain ⟨k, rfl⟩ : ∃ k, n = k + 1 := ⟨n - 1, by omega⟩
          simp only [Nat.add_sub_cancel] at r0
          have HP := Aside0.mk (HW6.out.trans (HM.out.below.mono hb6))
          go_wp2_with (go_at_call 13; (with_reducible refine (HAW.out _ (HT.out.on HP.out)).mono ?_); rintro e w7 ⟨rfl, hb⟩; have HW7 := Aside0.mk (HP.out.trans (hb.mono HP.out.size)); clear hb)
          go_ret
          exact ⟨rfl, HW7.out⟩
    · obtain ⟨h3, h4, h5, rfl⟩ := herr rfl he2
      have h4 : (0 : Int) ≤ at2 := h4
      have h5 : at2 ≤ (s.size : Int) := h5
      clear herr hlaw hgood he2
      rcases h3 with rfl | rfl | rfl
      all_goals
        go_wp2_with (first
          | (go_at_call 22; (with_reducible refine (HR.out _).mono ?_); rintro e w3 ⟨A3, c3, rfl, hc3, hsr, hb⟩; have HW3 := Aside0.mk (HW2.out.trans (hb.mono HW2.out.size)); clear hsr hb)
          | (go_at_call 19; (with_reducible refine (HTK.out _ (HT.out.on HW3.out)).mono ?_); rintro e w4 ⟨A4, c4, rfl, hc4, hsr, hb⟩; have HW4 := Aside0.mk (HW3.out.trans (hb.mono HW3.out.size)); clear hsr hb)
          | (go_at_call 13; (with_reducible refine (HAW.out _ (HT.out.on HW4.out)).mono ?_); rintro e w5 ⟨rfl, hb⟩; have HW5 := Aside0.mk (HW4.out.trans (hb.mono HW4.out.size)); clear hb))
        go_ret
        exact ⟨rfl, HW5.out⟩
  · have hs2 : e2 = e1 := hsame he1
    subst hs2
    have he3 : (e2 == 0) = false := by rw [beq_eq_false_iff_ne]; exact he1
    clear hsame herr hlaw hgood
    go_wp2_with (first
        | (go_at_call 22; (with_reducible refine (HR.out _).mono ?_); rintro e w3 ⟨A3, c3, rfl, hc3, hsr, hb⟩; have HW3 := Aside0.mk (HW2.out.trans (hb.mono HW2.out.size)); clear hsr hb)
        | (go_at_call 19; (with_reducible refine (HTK.out _ (HT.out.on HW3.out)).mono ?_); rintro e w4 ⟨A4, c4, rfl, hc4, hsr, hb⟩; have HW4 := Aside0.mk (HW3.out.trans (hb.mono HW3.out.size)); clear hsr hb)
        | (go_at_call 13; (with_reducible refine (HAW.out _ (HT.out.on HW4.out)).mono ?_); rintro e w5 ⟨rfl, hb⟩; have HW5 := Aside0.mk (HW4.out.trans (hb.mono HW4.out.size)); clear hb))
    go_ret
    exact ⟨rfl, HW5.out⟩

end Go.Proofs.YtfnhjdehlikbaaaGreatDoor.Lx

