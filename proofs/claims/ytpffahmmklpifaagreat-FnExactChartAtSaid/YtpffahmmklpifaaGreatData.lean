/- The program's data. -/
import Derived.Test.YtpffahmmklpifaaGreatAbsW
import Derived.Test.YtpffahmmklpifaaGreatAbsL
import Derived.Test.YtpffahmmklpifaaGreatAbsZS
import Derived.Test.YtpffahmmklpifaaGreatAbsYR
import Derived.Test.YtpffahmmklpifaaGreatAbsVF
import Derived.Test.YtpffahmmklpifaaGreatAbsYS
import Derived.Test.YtpffahmmklpifaaGreatAbsTG
import Derived.Test.YtpffahmmklpifaaGreatAbsTD
namespace Go.Proofs.YtpffahmmklpifaaGreat.Abs
open Go.RowKit Go.ChangeShapes Go.WideShapes
set_option linter.unusedVariables false
abbrev I (n : Int) : AV := .c (.int .i64 n)
abbrev B (b : Bool) : AV := .c (.bool b)
abbrev S (s : ByteArray) : AV := .c (.string s)
abbrev i64 (n : Int) : Prop := (Lit.int .i64 n).wf = true
theorem clo_nil : ∀ x ∈ ([] : List AV), Clo x := fun x h => by simp at h
theorem clo_cons {x : AV} {l : List AV} (h : Clo x) (hl : ∀ y ∈ l, Clo y) : ∀ y ∈ x :: l, Clo y := fun y hy => by
 rcases List.mem_cons.1 hy with rfl | hy
 · exact h
 · exact hl y hy
theorem clo_list {α : Type} {en : α → List AV} (h : ∀ a, ∀ x ∈ en a, Clo x) {sz : Nat} {l : List α} : Clo (.ro sz (l.map en)) := Clo.ro fun r hr x hx => by
 obtain ⟨a, _, rfl⟩ := List.mem_map.1 hr
 exact h a x hx
structure TPoint where
 x : Int
 y : Int
def TPoint.en (a : TPoint) : List AV := [I a.x, I a.y]
def TPoint.ok (a : TPoint) : Prop := i64 a.x ∧ i64 a.y
theorem TPoint.clo_en (a : TPoint) : ∀ x ∈ a.en, Clo x := clo_cons (clo_c _) (clo_cons (clo_c _) (clo_nil))
theorem TPoint.und {l : List TPoint} : undpR (l.map TPoint.en) = l.map TPoint.en := by simp only [undpR, List.map_map]; rfl
theorem TPoint.dpr {l : List TPoint} : dpR (l.map TPoint.en) = l.map TPoint.en := by simp only [dpR, List.map_map]; rfl
structure TSegment where
 a : TPoint
 b : TPoint
def TSegment.en (a : TSegment) : List AV := [I a.a.x, I a.a.y, I a.b.x, I a.b.y]
def TSegment.ok (a : TSegment) : Prop := a.a.ok ∧ a.b.ok
theorem TSegment.clo_en (a : TSegment) : ∀ x ∈ a.en, Clo x := clo_cons (clo_c _) (clo_cons (clo_c _) (clo_cons (clo_c _) (clo_cons (clo_c _) (clo_nil))))
theorem TSegment.und {l : List TSegment} : undpR (l.map TSegment.en) = l.map TSegment.en := by simp only [undpR, List.map_map]; rfl
theorem TSegment.dpr {l : List TSegment} : dpR (l.map TSegment.en) = l.map TSegment.en := by simp only [dpR, List.map_map]; rfl
structure TBox where
 low : TPoint
 high : TPoint
def TBox.en (a : TBox) : List AV := [I a.low.x, I a.low.y, I a.high.x, I a.high.y]
def TBox.ok (a : TBox) : Prop := a.low.ok ∧ a.high.ok
theorem TBox.clo_en (a : TBox) : ∀ x ∈ a.en, Clo x := clo_cons (clo_c _) (clo_cons (clo_c _) (clo_cons (clo_c _) (clo_cons (clo_c _) (clo_nil))))
theorem TBox.und {l : List TBox} : undpR (l.map TBox.en) = l.map TBox.en := by simp only [undpR, List.map_map]; rfl
theorem TBox.dpr {l : List TBox} : dpR (l.map TBox.en) = l.map TBox.en := by simp only [dpR, List.map_map]; rfl
structure TFeature where
 id : Int
 kind : Int
 rank : Int
 name : ByteArray
 points : List TPoint
def TFeature.en (a : TFeature) : List AV := [I a.id, I a.kind, I a.rank, S a.name, .ro 2 (a.points.map TPoint.en)]
def TFeature.ok (a : TFeature) : Prop := i64 a.id ∧ i64 a.kind ∧ i64 a.rank ∧ a.name.size ≤ maxLen ∧ (a.points.length ≤ maxLen ∧ ∀ x ∈ a.points, x.ok)
theorem TFeature.clo_en (a : TFeature) : ∀ x ∈ a.en, Clo x := clo_cons (clo_c _) (clo_cons (clo_c _) (clo_cons (clo_c _) (clo_cons (clo_c _) (clo_cons (clo_list TPoint.clo_en) (clo_nil)))))
def TFeature.ed (a : TFeature) : List AV := [I a.id, I a.kind, I a.rank, S a.name, .dp (.ro 2 (a.points.map TPoint.en))]
theorem TFeature.und {l : List TFeature} : undpR (l.map TFeature.ed) = l.map TFeature.en := by simp only [undpR, List.map_map]; rfl
theorem TFeature.dpr {l : List TFeature} : dpR (l.map TFeature.en) = l.map TFeature.ed := by simp only [dpR, List.map_map]; rfl
structure TMeet where
 a : Int
 b : Int
 how : Int
def TMeet.en (a : TMeet) : List AV := [I a.a, I a.b, I a.how]
def TMeet.ok (a : TMeet) : Prop := i64 a.a ∧ i64 a.b ∧ i64 a.how
theorem TMeet.clo_en (a : TMeet) : ∀ x ∈ a.en, Clo x := clo_cons (clo_c _) (clo_cons (clo_c _) (clo_cons (clo_c _) (clo_nil)))
theorem TMeet.und {l : List TMeet} : undpR (l.map TMeet.en) = l.map TMeet.en := by simp only [undpR, List.map_map]; rfl
theorem TMeet.dpr {l : List TMeet} : dpR (l.map TMeet.en) = l.map TMeet.en := by simp only [dpR, List.map_map]; rfl
structure TPlace where
 id : Int
 at_ : TPoint
 rank : Int
def TPlace.en (a : TPlace) : List AV := [I a.id, I a.at_.x, I a.at_.y, I a.rank]
def TPlace.ok (a : TPlace) : Prop := i64 a.id ∧ a.at_.ok ∧ i64 a.rank
theorem TPlace.clo_en (a : TPlace) : ∀ x ∈ a.en, Clo x := clo_cons (clo_c _) (clo_cons (clo_c _) (clo_cons (clo_c _) (clo_cons (clo_c _) (clo_nil))))
theorem TPlace.und {l : List TPlace} : undpR (l.map TPlace.en) = l.map TPlace.en := by simp only [undpR, List.map_map]; rfl
theorem TPlace.dpr {l : List TPlace} : dpR (l.map TPlace.en) = l.map TPlace.en := by simp only [dpR, List.map_map]; rfl
structure TCover where
 w : Int
 h : Int
 cells : ByteArray
def TCover.en (a : TCover) : List AV := [I a.w, I a.h, S a.cells]
def TCover.ok (a : TCover) : Prop := i64 a.w ∧ i64 a.h ∧ a.cells.size ≤ maxLen
theorem TCover.clo_en (a : TCover) : ∀ x ∈ a.en, Clo x := clo_cons (clo_c _) (clo_cons (clo_c _) (clo_cons (clo_c _) (clo_nil)))
theorem TCover.und {l : List TCover} : undpR (l.map TCover.en) = l.map TCover.en := by simp only [undpR, List.map_map]; rfl
theorem TCover.dpr {l : List TCover} : dpR (l.map TCover.en) = l.map TCover.en := by simp only [dpR, List.map_map]; rfl
structure TLabel where
 id : Int
 name : ByteArray
 box : TBox
def TLabel.en (a : TLabel) : List AV := [I a.id, S a.name, I a.box.low.x, I a.box.low.y, I a.box.high.x, I a.box.high.y]
def TLabel.ok (a : TLabel) : Prop := i64 a.id ∧ a.name.size ≤ maxLen ∧ a.box.ok
theorem TLabel.clo_en (a : TLabel) : ∀ x ∈ a.en, Clo x := clo_cons (clo_c _) (clo_cons (clo_c _) (clo_cons (clo_c _) (clo_cons (clo_c _) (clo_cons (clo_c _) (clo_cons (clo_c _) (clo_nil))))))
theorem TLabel.und {l : List TLabel} : undpR (l.map TLabel.en) = l.map TLabel.en := by simp only [undpR, List.map_map]; rfl
theorem TLabel.dpr {l : List TLabel} : dpR (l.map TLabel.en) = l.map TLabel.en := by simp only [dpR, List.map_map]; rfl
structure TPiece where
 id : Int
 part : Int
def TPiece.en (a : TPiece) : List AV := [I a.id, I a.part]
def TPiece.ok (a : TPiece) : Prop := i64 a.id ∧ i64 a.part
theorem TPiece.clo_en (a : TPiece) : ∀ x ∈ a.en, Clo x := clo_cons (clo_c _) (clo_cons (clo_c _) (clo_nil))
theorem TPiece.und {l : List TPiece} : undpR (l.map TPiece.en) = l.map TPiece.en := by simp only [undpR, List.map_map]; rfl
theorem TPiece.dpr {l : List TPiece} : dpR (l.map TPiece.en) = l.map TPiece.en := by simp only [dpR, List.map_map]; rfl
structure TLevel where
 rank : Int
 far : Int
 least : Int
def TLevel.en (a : TLevel) : List AV := [I a.rank, I a.far, I a.least]
def TLevel.ok (a : TLevel) : Prop := i64 a.rank ∧ i64 a.far ∧ i64 a.least
theorem TLevel.clo_en (a : TLevel) : ∀ x ∈ a.en, Clo x := clo_cons (clo_c _) (clo_cons (clo_c _) (clo_cons (clo_c _) (clo_nil)))
theorem TLevel.und {l : List TLevel} : undpR (l.map TLevel.en) = l.map TLevel.en := by simp only [undpR, List.map_map]; rfl
theorem TLevel.dpr {l : List TLevel} : dpR (l.map TLevel.en) = l.map TLevel.en := by simp only [dpR, List.map_map]; rfl
structure TChart where
 features : List TFeature
 labels : List TLabel
def TChart.en (a : TChart) : List AV := [.ro 5 (a.features.map TFeature.en), .ro 6 (a.labels.map TLabel.en)]
def TChart.ok (a : TChart) : Prop := (a.features.length ≤ maxLen ∧ ∀ x ∈ a.features, x.ok) ∧ (a.labels.length ≤ maxLen ∧ ∀ x ∈ a.labels, x.ok)
theorem TChart.clo_en (a : TChart) : ∀ x ∈ a.en, Clo x := clo_cons (clo_list TFeature.clo_en) (clo_cons (clo_list TLabel.clo_en) (clo_nil))
def TChart.ed (a : TChart) : List AV := [.dp (.ro 5 (a.features.map TFeature.en)), .dp (.ro 6 (a.labels.map TLabel.en))]
theorem TChart.und {l : List TChart} : undpR (l.map TChart.ed) = l.map TChart.en := by simp only [undpR, List.map_map]; rfl
theorem TChart.dpr {l : List TChart} : dpR (l.map TChart.en) = l.map TChart.ed := by simp only [dpR, List.map_map]; rfl
structure TReason where
 id : Int
 why : Int
 by_ : Int
def TReason.en (a : TReason) : List AV := [I a.id, I a.why, I a.by_]
def TReason.ok (a : TReason) : Prop := i64 a.id ∧ i64 a.why ∧ i64 a.by_
theorem TReason.clo_en (a : TReason) : ∀ x ∈ a.en, Clo x := clo_cons (clo_c _) (clo_cons (clo_c _) (clo_cons (clo_c _) (clo_nil)))
theorem TReason.und {l : List TReason} : undpR (l.map TReason.en) = l.map TReason.en := by simp only [undpR, List.map_map]; rfl
theorem TReason.dpr {l : List TReason} : dpR (l.map TReason.en) = l.map TReason.en := by simp only [dpR, List.map_map]; rfl
structure TEdit where
 kind : Int
 feature : TFeature
 id : Int
 dx : Int
 dy : Int
def TEdit.en (a : TEdit) : List AV := [I a.kind, I a.feature.id, I a.feature.kind, I a.feature.rank, S a.feature.name, .ro 2 (a.feature.points.map TPoint.en), I a.id, I a.dx, I a.dy]
def TEdit.ok (a : TEdit) : Prop := i64 a.kind ∧ a.feature.ok ∧ i64 a.id ∧ i64 a.dx ∧ i64 a.dy
theorem TEdit.clo_en (a : TEdit) : ∀ x ∈ a.en, Clo x := clo_cons (clo_c _) (clo_cons (clo_c _) (clo_cons (clo_c _) (clo_cons (clo_c _) (clo_cons (clo_c _) (clo_cons (clo_list TPoint.clo_en) (clo_cons (clo_c _) (clo_cons (clo_c _) (clo_cons (clo_c _) (clo_nil)))))))))
def TEdit.ed (a : TEdit) : List AV := [I a.kind, I a.feature.id, I a.feature.kind, I a.feature.rank, S a.feature.name, .dp (.ro 2 (a.feature.points.map TPoint.en)), I a.id, I a.dx, I a.dy]
theorem TEdit.und {l : List TEdit} : undpR (l.map TEdit.ed) = l.map TEdit.en := by simp only [undpR, List.map_map]; rfl
theorem TEdit.dpr {l : List TEdit} : dpR (l.map TEdit.en) = l.map TEdit.ed := by simp only [dpR, List.map_map]; rfl
structure TEntry where
 feature : TFeature
 tick : Int
 who : Int
 gone : Bool
def TEntry.en (a : TEntry) : List AV := [I a.feature.id, I a.feature.kind, I a.feature.rank, S a.feature.name, .ro 2 (a.feature.points.map TPoint.en), I a.tick, I a.who, B a.gone]
def TEntry.ok (a : TEntry) : Prop := a.feature.ok ∧ i64 a.tick ∧ i64 a.who ∧ True
theorem TEntry.clo_en (a : TEntry) : ∀ x ∈ a.en, Clo x := clo_cons (clo_c _) (clo_cons (clo_c _) (clo_cons (clo_c _) (clo_cons (clo_c _) (clo_cons (clo_list TPoint.clo_en) (clo_cons (clo_c _) (clo_cons (clo_c _) (clo_cons (clo_c _) (clo_nil))))))))
def TEntry.ed (a : TEntry) : List AV := [I a.feature.id, I a.feature.kind, I a.feature.rank, S a.feature.name, .dp (.ro 2 (a.feature.points.map TPoint.en)), I a.tick, I a.who, B a.gone]
theorem TEntry.und {l : List TEntry} : undpR (l.map TEntry.ed) = l.map TEntry.en := by simp only [undpR, List.map_map]; rfl
theorem TEntry.dpr {l : List TEntry} : dpR (l.map TEntry.en) = l.map TEntry.ed := by simp only [dpR, List.map_map]; rfl
structure TEdition where
 tick : Int
 source : List TFeature
 seal_ : Int
def TEdition.en (a : TEdition) : List AV := [I a.tick, .ro 5 (a.source.map TFeature.en), I a.seal_]
def TEdition.ok (a : TEdition) : Prop := i64 a.tick ∧ (a.source.length ≤ maxLen ∧ ∀ x ∈ a.source, x.ok) ∧ i64 a.seal_
theorem TEdition.clo_en (a : TEdition) : ∀ x ∈ a.en, Clo x := clo_cons (clo_c _) (clo_cons (clo_list TFeature.clo_en) (clo_cons (clo_c _) (clo_nil)))
def TEdition.ed (a : TEdition) : List AV := [I a.tick, .dp (.ro 5 (a.source.map TFeature.en)), I a.seal_]
theorem TEdition.und {l : List TEdition} : undpR (l.map TEdition.ed) = l.map TEdition.en := by simp only [undpR, List.map_map]; rfl
theorem TEdition.dpr {l : List TEdition} : dpR (l.map TEdition.en) = l.map TEdition.ed := by simp only [dpR, List.map_map]; rfl
structure TListing where
 name : ByteArray
 id : Int
 ref : ByteArray
def TListing.en (a : TListing) : List AV := [S a.name, I a.id, S a.ref]
def TListing.ok (a : TListing) : Prop := a.name.size ≤ maxLen ∧ i64 a.id ∧ a.ref.size ≤ maxLen
theorem TListing.clo_en (a : TListing) : ∀ x ∈ a.en, Clo x := clo_cons (clo_c _) (clo_cons (clo_c _) (clo_cons (clo_c _) (clo_nil)))
theorem TListing.und {l : List TListing} : undpR (l.map TListing.en) = l.map TListing.en := by simp only [undpR, List.map_map]; rfl
theorem TListing.dpr {l : List TListing} : dpR (l.map TListing.en) = l.map TListing.en := by simp only [dpR, List.map_map]; rfl
structure TAtlas where
 log : List TEntry
 levels : List TLevel
 editions : List TEdition
 cover : TCover
 now : Int
def TAtlas.en (a : TAtlas) : List AV := [.ro 8 (a.log.map TEntry.en), .ro 3 (a.levels.map TLevel.en), .ro 3 (a.editions.map TEdition.en), I a.cover.w, I a.cover.h, S a.cover.cells, I a.now]
def TAtlas.ok (a : TAtlas) : Prop := (a.log.length ≤ maxLen ∧ ∀ x ∈ a.log, x.ok) ∧ (a.levels.length ≤ maxLen ∧ ∀ x ∈ a.levels, x.ok) ∧ (a.editions.length ≤ maxLen ∧ ∀ x ∈ a.editions, x.ok) ∧ a.cover.ok ∧ i64 a.now
theorem TAtlas.clo_en (a : TAtlas) : ∀ x ∈ a.en, Clo x := clo_cons (clo_list TEntry.clo_en) (clo_cons (clo_list TLevel.clo_en) (clo_cons (clo_list TEdition.clo_en) (clo_cons (clo_c _) (clo_cons (clo_c _) (clo_cons (clo_c _) (clo_cons (clo_c _) (clo_nil)))))))
def TAtlas.ed (a : TAtlas) : List AV := [.dp (.ro 8 (a.log.map TEntry.en)), .dp (.ro 3 (a.levels.map TLevel.en)), .dp (.ro 3 (a.editions.map TEdition.en)), I a.cover.w, I a.cover.h, S a.cover.cells, I a.now]
theorem TAtlas.und {l : List TAtlas} : undpR (l.map TAtlas.ed) = l.map TAtlas.en := by simp only [undpR, List.map_map]; rfl
theorem TAtlas.dpr {l : List TAtlas} : dpR (l.map TAtlas.en) = l.map TAtlas.ed := by simp only [dpR, List.map_map]; rfl
structure TEvent where
 kind : Int
 feature : TFeature
 id : Int
 who : Int
 log : List TEntry
 levels : List TLevel
 letter : ByteArray
def TEvent.en (a : TEvent) : List AV := [I a.kind, I a.feature.id, I a.feature.kind, I a.feature.rank, S a.feature.name, .ro 2 (a.feature.points.map TPoint.en), I a.id, I a.who, .ro 8 (a.log.map TEntry.en), .ro 3 (a.levels.map TLevel.en), S a.letter]
def TEvent.ok (a : TEvent) : Prop := i64 a.kind ∧ a.feature.ok ∧ i64 a.id ∧ i64 a.who ∧ (a.log.length ≤ maxLen ∧ ∀ x ∈ a.log, x.ok) ∧ (a.levels.length ≤ maxLen ∧ ∀ x ∈ a.levels, x.ok) ∧ a.letter.size ≤ maxLen
theorem TEvent.clo_en (a : TEvent) : ∀ x ∈ a.en, Clo x := clo_cons (clo_c _) (clo_cons (clo_c _) (clo_cons (clo_c _) (clo_cons (clo_c _) (clo_cons (clo_c _) (clo_cons (clo_list TPoint.clo_en) (clo_cons (clo_c _) (clo_cons (clo_c _) (clo_cons (clo_list TEntry.clo_en) (clo_cons (clo_list TLevel.clo_en) (clo_cons (clo_c _) (clo_nil)))))))))))
def TEvent.ed (a : TEvent) : List AV := [I a.kind, I a.feature.id, I a.feature.kind, I a.feature.rank, S a.feature.name, .dp (.ro 2 (a.feature.points.map TPoint.en)), I a.id, I a.who, .dp (.ro 8 (a.log.map TEntry.en)), .dp (.ro 3 (a.levels.map TLevel.en)), S a.letter]
theorem TEvent.und {l : List TEvent} : undpR (l.map TEvent.ed) = l.map TEvent.en := by simp only [undpR, List.map_map]; rfl
theorem TEvent.dpr {l : List TEvent} : dpR (l.map TEvent.en) = l.map TEvent.ed := by simp only [dpR, List.map_map]; rfl
structure TWindow where
 low : TPoint
 side : Int
 level : Int
def TWindow.en (a : TWindow) : List AV := [I a.low.x, I a.low.y, I a.side, I a.level]
def TWindow.ok (a : TWindow) : Prop := a.low.ok ∧ i64 a.side ∧ i64 a.level
theorem TWindow.clo_en (a : TWindow) : ∀ x ∈ a.en, Clo x := clo_cons (clo_c _) (clo_cons (clo_c _) (clo_cons (clo_c _) (clo_cons (clo_c _) (clo_nil))))
theorem TWindow.und {l : List TWindow} : undpR (l.map TWindow.en) = l.map TWindow.en := by simp only [undpR, List.map_map]; rfl
theorem TWindow.dpr {l : List TWindow} : dpR (l.map TWindow.en) = l.map TWindow.en := by simp only [dpR, List.map_map]; rfl
end Go.Proofs.YtpffahmmklpifaaGreat.Abs
