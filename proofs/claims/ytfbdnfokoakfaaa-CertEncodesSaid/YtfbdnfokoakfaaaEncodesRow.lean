/- CertEncodes, for its row. -/
import Derived.Test.YtfbdnfokoakfaaaEncodesLaw
import Derived.Test.YtfbdnfokoakfaaaCertRow
