/-
  The program's wrong, at whatever entry. No condition but what the judge holds.
-/
import Derived.Test.YtgincippgaecfaaJ18
import Derived.Test.YtgincippgaecfaaL2
namespace Go.Proofs.Ytgincippgaecfaa.Au
open Go Go.RowKit

/-- What wrong answers and leaves. -/
def WrongPost (S B2 : Nat) (w0 : World) (qs : List Qc) (pre : List Ent) (e : Ent) (n : Nat) (r : Ending) (W' : World) : Prop := r = .returned (.int .i64 n) ∧ Below S w0 W' ∧ (n = 0 → JI S B2 w0 qs (pre ++ [e]) W')

section
variable {S B2 : Nat} {w0 W : World} {qs : List Qc} {pre : List Ent}

theorem openC_hi (pre : List Ent) (e : Ent) : openC pre e ≤ pre.length := by
  unfold openC; have := countL_le pre e 1 1 true; omega
theorem heldC_hi (pre : List Ent) (e : Ent) : heldC pre e ≤ pre.length := by
  unfold heldC; have := countL_le pre e 4 4 true; omega

theorem pwrong_any (e : Ent) (h : JI S B2 w0 qs pre W) (hlen : pre.length < 400) (he : EntOk e) (hp : ∀ x ∈ pre, EntOk x) (hq : qs.length * 56 ≤ 140737488351232) :
    Calls Try.prog 21 #[.pointer (some ⟨S + 5, 0, none⟩), e.val] W (WrongPost S B2 w0 qs pre e (wrongL qs pre e)) := by
  obtain ⟨j0, j1, j2, j3, j4⟩ := h.cellsJ
  have hlt := h.lt
  have hlo := h.lo
  have hsz := h.size
  have hn : pre.length < maxLen := by unfold maxLen; omega
  have hbel : ∀ {W'}, Below W.heap.size W W' → Below S w0 W' := fun hb => h.below.trans (hb.mono (by omega))
  obtain ⟨fo, hMo, hfo⟩ := h.open_
  obtain ⟨fh, hMh, hfh⟩ := h.held
  obtain ⟨fs, hMs, hrs, hap⟩ := h.sent
  obtain ⟨fb, hMb, hfb⟩ := h.back
  have hfine := h.fine e
  have ho1 := openC_hi pre e
  have hh1 := heldC_hi pre e
  have hbk := fun m => backC_le pre m
  have hkey := he.key
  obtain ⟨ek, ew, eq, em, ec, ed⟩ := e
  rcases okE_kind he.ok with hk | hk | hk | hk | hk | hk | hk <;> simp only at hk <;> subst hk
  · -- sent
    rw [wrongL_sent (.inl rfl)]
    refine (sent_any S B2 pre.length pre.length fo fs (openC pre ⟨1, ew, eq, em, ec, ed⟩) ew em ec eq ed (sentL pre em) (fs (.int .i64 em)) W j1 j3 hlt hMo hn hkey (hfo _) hfine.1 (by omega) hMs hn he.msg rfl (hrs em) (by have := sentL_len pre em; omega) hsz hlo).mono ?_
    rintro r W' ⟨rfl, hP⟩
    have hJ := h.sent_ rfl hfo rfl hMs hrs hap hP
    exact ⟨rfl, hJ.below, fun _ => hJ⟩
  · -- taken
    rw [wrongL_told hp he (.inl rfl)]
    by_cases hpos : 0 < openC pre ⟨2, ew, eq, em, ec, ed⟩
    · rw [if_pos hpos]
      refine (told2_yes S pre.length fo _ ew em ec eq ed W j1 hlt hMo hn hkey (hfo _) hpos (by omega)).mono ?_
      rintro r W' ⟨rfl, hg, hM⟩
      have hJ := h.told (.inl rfl) hpos hfo hg hM
      exact ⟨rfl, hJ.below, fun _ => hJ⟩
    · rw [if_neg hpos]
      refine (told2_no S pre.length fo ew em ec eq ed W j1 hlt hMo hkey (by rw [hfo]; congr 1; omega)).mono ?_
      rintro r W' ⟨rfl, hb⟩
      exact ⟨rfl, hbel hb, fun e => by cases e⟩
  · -- refused
    rw [wrongL_told hp he (.inr rfl)]
    by_cases hpos : 0 < openC pre ⟨3, ew, eq, em, ec, ed⟩
    · rw [if_pos hpos]
      refine (told3_yes S pre.length fo _ ew em ec eq ed W j1 hlt hMo hn hkey (hfo _) hpos (by omega)).mono ?_
      rintro r W' ⟨rfl, hg, hM⟩
      have hJ := h.told (.inr rfl) hpos hfo hg hM
      exact ⟨rfl, hJ.below, fun _ => hJ⟩
    · rw [if_neg hpos]
      refine (told3_no S pre.length fo ew em ec eq ed W j1 hlt hMo hkey (by rw [hfo]; congr 1; omega)).mono ?_
      rintro r W' ⟨rfl, hb⟩
      exact ⟨rfl, hbel hb, fun e => by cases e⟩
  · -- got
    rw [wrongL_got rfl]
    have hW := h.later (W2of_below W ⟨4, ew, eq, em, ec, ed⟩)
    obtain ⟨N, fd, hD, _⟩ := hW.dead
    obtain ⟨k0, _, _, k3, k4⟩ := hW.cellsJ
    have hrow := hrs em
    have hist : HistAt (W2of W ⟨4, ew, eq, em, ec, ed⟩).heap.size (W2of W ⟨4, ew, eq, em, ec, ed⟩) (fs (.int .i64 em)) (sentL pre em) := by
      have hrow2 := ownsRow_belowJ hrow (W2of_below W ⟨4, ew, eq, em, ec, ed⟩) fun g hg => (World.ownsRow.lt hrow g hg).2
      rcases Nat.eq_zero_or_pos (sentL pre em).length with h0 | h0
      · rcases hrow2.2 with ⟨h1, _⟩ | ⟨g, cap, cur, h1, _⟩
        · exact .inl ⟨none, 0, h1, List.length_eq_zero_iff.1 h0⟩
        · exact .inl ⟨_, _, by rw [h1, h0], List.length_eq_zero_iff.1 h0⟩
      · rcases hrow2.2 with ⟨_, h1⟩ | ⟨g, cap, cur, h1, _⟩
        · omega
        · rw [h1] at hrow2 ⊢
          obtain ⟨⟨hF, _⟩, _, _, _, hg⟩ := FromAt.of_own rfl hrow2
          refine .inr ⟨g, 0, cap, rfl, hg, fun i e he => ?_⟩
          rw [Nat.zero_add]
          exact hF i e (Nat.zero_le _) he
    have hg := pgot_any (S + 6) S N (S + 5) (S + 3) (S + 4) pre.length pre.length fd fs fb qs (sentL pre em) (backC pre em) ⟨4, ew, eq, em, ec, ed⟩ (W2of W ⟨4, ew, eq, em, ec, ed⟩) hq k0 k3 k4 hW.lt hD (hMs.below (W2of_below W _) hMs.lt) hist (hMb.below (W2of_below W _) hMb.lt) (hfb em)
      (fun x hx => (hp x (List.mem_filter.1 hx).1).queue) (by have := sentL_len pre em; omega) he.msg
    generalize hgv : gotA qs (sentL pre em) (backC pre em) ⟨4, ew, eq, em, ec, ed⟩ = gv at hg ⊢
    by_cases h0 : gv = 0
    · subst h0
      refine (got_yesJ S pre.length fh _ ew em ec eq ed W j2 hlt hMh hn hkey (hfh _) hfine.2 (by omega) hg).mono ?_
      rintro r W' ⟨rfl, W1, hb1, hg1, hM1⟩
      have hJ1 := h.later hb1
      have hJ := hJ1.got rfl hfh hg1 hM1
      exact ⟨rfl, hJ.below, fun _ => hJ⟩
    · refine (got_no S gv ew em ec eq ed W (by omega) hg).mono ?_
      rintro r W' ⟨rfl, hb⟩
      exact ⟨rfl, hbel hb, fun e => absurd e h0⟩
  · -- done
    rw [wrongL_done (.inl rfl)]
    by_cases hpos : 0 < heldC pre ⟨5, ew, eq, em, ec, ed⟩
    · rw [if_pos hpos]
      refine (done5_yes S pre.length fh _ ew em ec eq ed W j2 hlt hMh hn hkey (hfh _) hpos (by omega)).mono ?_
      rintro r W' ⟨rfl, hg, hM⟩
      have hJ := h.done rfl hpos hfh hg hM
      exact ⟨rfl, hJ.below, fun _ => hJ⟩
    · rw [if_neg hpos]
      refine (done5_no S pre.length fh ew em ec eq ed W j2 hlt hMh hkey (by rw [hfh]; congr 1; omega)).mono ?_
      rintro r W' ⟨rfl, hb⟩
      exact ⟨rfl, hbel hb, fun e => by cases e⟩
  · -- back
    rw [wrongL_done (.inr rfl)]
    by_cases hpos : 0 < heldC pre ⟨6, ew, eq, em, ec, ed⟩
    · rw [if_pos hpos]
      refine (back6_yes S pre.length fh _ ew em ec eq ed W j2 hlt hMh hn hkey (hfh _) hpos (by omega) fb pre.length (backC pre em) hMb hn (hfb em) (hbk em).1 (by have := hbk em; omega) he.msg j4).mono ?_
      rintro r W' ⟨rfl, W1, ⟨hg, hM⟩, hg2, hM2⟩
      have hJ := h.gave rfl hpos hfh hfb hg hM hg2 hM2
      exact ⟨rfl, hJ.below, fun _ => hJ⟩
    · rw [if_neg hpos]
      refine (back6_no S pre.length fh ew em ec eq ed W j2 hlt hMh hkey (by rw [hfh]; congr 1; omega)).mono ?_
      rintro r W' ⟨rfl, hb⟩
      exact ⟨rfl, hbel hb, fun e => by cases e⟩
  · -- crash
    rw [wrongL_sent (.inr rfl)]
    refine (crash_any _ ew em ec eq ed W).mono ?_
    rintro r W' ⟨rfl, hb⟩
    exact ⟨rfl, hbel hb, fun _ => (h.later hb).crash rfl⟩
end

end Go.Proofs.Ytgincippgaecfaa.Au
