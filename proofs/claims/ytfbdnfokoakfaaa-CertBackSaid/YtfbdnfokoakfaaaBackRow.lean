/- CertBack, for its row. -/
import Derived.Test.YtfbdnfokoakfaaaBackLaw
import Derived.Test.YtfbdnfokoakfaaaCertRow
